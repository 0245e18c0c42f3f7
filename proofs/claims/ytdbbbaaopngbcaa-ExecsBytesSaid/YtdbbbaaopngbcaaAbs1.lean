/- The abstract machine: values, operations, and that the model's operations answer so. No condition. -/
import Derived.WalkKit
import Derived.ProofKit
import Derived.Below
import Derived.Laws.AppendOwn
import Derived.Maps.AppendAt
import Derived.Deep.MidRow
import Derived.Laws.IdiomCopy
import Derived.Orders
import Derived.Laws.Slices
import Derived.WalkSpells
import Derived.ChangeKeysEq
import Derived.Laws.CopyRow
import Derived.Great.BuildSlice
import Derived.Laws.MakeOwn
set_option linter.unusedVariables false
set_option linter.unusedSimpArgs false
section
/- An abstract machine, its states and what they say of a world: pure values, slices by their contents, variables by names. No condition. -/
namespace Go.Abs

/-- Pure values: what cells hold, slices by their elements' cells. -/
inductive PV where
  | bool (b : Bool)
  | int (k : IntKind) (n : Int)
  | str (s : ByteArray)
  | nilp
  | sl (sz : Nat) (es : List (List PV))

/-- What is known of a slot. -/
inductive AV where
  | undef
  | none
  | pv (p : PV)
  | os (e sz : Nat) (es : List (List PV))
  | ptr (x off : Nat)
  | rp (l : List PV)
  | sr (x off len sz : Nat)
  | fn (f : Nat)
  | pagg (l : List PV)
  | agg (l : List AV)
  | tup (l : List AV)

inductive Key where
  | t (n : Nat)
  | m (n : Nat)
  deriving DecidableEq

def S := Key → AV
def S.up (s : S) (k : Key) (v : AV) : S := fun j => if j = k then v else s j
def S.ups (s : S) : List (Key × AV) → S
  | [] => s
  | (k, v) :: r => S.ups (s.up k v) r
theorem S.up_same (s : S) (k : Key) (v : AV) : s.up k v k = v := by simp [S.up]
theorem S.up_other (s : S) {k j : Key} (v : AV) (h : j ≠ k) : s.up k v j = s j := by simp [S.up, h]

/-- The value is the pure one; each cell that is read lies where 'fp' holds. -/
inductive PR (fp : Nat → Nat → Prop) (w : World) : Value → PV → Prop
  | bool (b : Bool) : PR fp w (.bool b) (.bool b)
  | int (k : IntKind) (n : Int) : PR fp w (.int k n) (.int k n)
  | str (s : ByteArray) : PR fp w (.string s) (.str s)
  | nilp : PR fp w (.pointer none) .nilp
  | sl0 (A : Option Addr) (c sz : Nat) : c ≤ maxLen → (A = none → c = 0) → PR fp w (.slice A 0 c) (.sl sz [])
  | sl (b o c sz : Nat) (es : List (List PV)) (f : Nat → Nat → Value) : es.length ≤ c → c ≤ maxLen → (∀ r ∈ es, r.length = sz) →
      (∀ i r j, es[i]? = some r → j < sz → fp b (o + i * sz + j) ∧ w.cell? ⟨b, o + i * sz + j, none⟩ = some (f i j)) →
      (∀ i r j p, es[i]? = some r → r[j]? = some p → PR fp w (f i j) p) → PR fp w (.slice (some ⟨b, o, none⟩) es.length c) (.sl sz es)

theorem PR.mono {fp fp' : Nat → Nat → Prop} {w w' : World} (h : ∀ b o v, fp b o → w.cell? ⟨b, o, none⟩ = some v → fp' b o ∧ w'.cell? ⟨b, o, none⟩ = some v)
    {v : Value} {p : PV} (hp : PR fp w v p) : PR fp' w' v p := by
  induction hp with
  | bool b => exact .bool b
  | int k n => exact .int k n
  | str s => exact .str s
  | nilp => exact .nilp
  | sl0 A c sz h1 h2 => exact .sl0 A c sz h1 h2
  | sl b o c sz es f h1 h2 h3 h4 _ ih =>
    refine .sl b o c sz es f h1 h2 h3 (fun i r j hi hj => ?_) ih
    obtain ⟨a1, a2⟩ := h4 i r j hi hj
    exact h _ _ _ a1 a2

theorem PR.one {fp : Nat → Nat → Prop} {w : World} {v : Value} {p : PV} (h : PR fp w v p) : v.oneCell' = true := by cases h <;> rfl
theorem PR.cells {fp : Nat → Nat → Prop} {w : World} {v : Value} {p : PV} (h : PR fp w v p) : v.cells = #[v] := by cases h <;> rfl

def PRs (fp : Nat → Nat → Prop) (w : World) (vs : List Value) (ps : List PV) : Prop :=
  vs.length = ps.length ∧ ∀ (j : Nat) v p, vs[j]? = some v → ps[j]? = some p → PR fp w v p

theorem PRs.mono {fp fp' : Nat → Nat → Prop} {w w' : World} (h : ∀ b o v, fp b o → w.cell? ⟨b, o, none⟩ = some v → fp' b o ∧ w'.cell? ⟨b, o, none⟩ = some v)
    {vs : List Value} {ps : List PV} (hp : PRs fp w vs ps) : PRs fp' w' vs ps := ⟨hp.1, fun j v p a b => (hp.2 j v p a b).mono h⟩
theorem PRs.nil (fp : Nat → Nat → Prop) (w : World) : PRs fp w [] [] := ⟨rfl, fun j v p h => by simp at h⟩
theorem PRs.get {fp : Nat → Nat → Prop} {w : World} {vs : List Value} {ps : List PV} (h : PRs fp w vs ps) {j : Nat} {p : PV} (hp : ps[j]? = some p) : ∃ v, vs[j]? = some v ∧ PR fp w v p := by
  have hj : j < vs.length := by rw [h.1]; exact (List.getElem?_eq_some_iff.1 hp).1
  exact ⟨vs[j], List.getElem?_eq_getElem hj, h.2 j _ p (List.getElem?_eq_getElem hj) hp⟩
theorem PRs.getV {fp : Nat → Nat → Prop} {w : World} {vs : List Value} {ps : List PV} (h : PRs fp w vs ps) {j : Nat} {v : Value} (hv : vs[j]? = some v) : ∃ p, ps[j]? = some p ∧ PR fp w v p := by
  have hj : j < ps.length := by rw [← h.1]; exact (List.getElem?_eq_some_iff.1 hv).1
  exact ⟨ps[j], List.getElem?_eq_getElem hj, h.2 j v _ hv (List.getElem?_eq_getElem hj)⟩
theorem PRs.append {fp : Nat → Nat → Prop} {w : World} {vs vs' : List Value} {ps ps' : List PV} (h : PRs fp w vs ps) (h' : PRs fp w vs' ps') : PRs fp w (vs ++ vs') (ps ++ ps') := by
  refine ⟨by simp [h.1, h'.1], fun j v p a b => ?_⟩
  by_cases hj : j < vs.length
  · rw [List.getElem?_append_left hj] at a
    rw [List.getElem?_append_left (by rw [← h.1]; exact hj)] at b
    exact h.2 j v p a b
  · rw [List.getElem?_append_right (by omega)] at a
    rw [List.getElem?_append_right (by rw [← h.1]; omega), ← h.1] at b
    exact h'.2 _ v p a b
theorem PRs.take {fp : Nat → Nat → Prop} {w : World} {vs : List Value} {ps : List PV} (h : PRs fp w vs ps) (n : Nat) : PRs fp w (vs.take n) (ps.take n) := by
  refine ⟨by simp [h.1], fun j v p a b => ?_⟩
  rw [List.getElem?_take] at a b
  split at a
  · rename_i hj; rw [if_pos hj] at b; exact h.2 j v p a b
  · cases a
theorem PRs.drop {fp : Nat → Nat → Prop} {w : World} {vs : List Value} {ps : List PV} (h : PRs fp w vs ps) (n : Nat) : PRs fp w (vs.drop n) (ps.drop n) := by
  refine ⟨by simp [h.1], fun j v p a b => ?_⟩
  rw [List.getElem?_drop] at a b
  exact h.2 _ v p a b
theorem PRs.set {fp : Nat → Nat → Prop} {w : World} {vs : List Value} {ps : List PV} (h : PRs fp w vs ps) (n : Nat) {v : Value} {p : PV} (hp : PR fp w v p) : PRs fp w (vs.set n v) (ps.set n p) := by
  refine ⟨by simp [h.1], fun j u q a b => ?_⟩
  rw [List.getElem?_set] at a b
  split at a
  · rename_i hj
    subst hj
    rw [if_pos rfl] at b
    split at a
    · cases a
      split at b
      · cases b; exact hp
      · cases b
    · cases a
  · rename_i hj
    rw [if_neg hj] at b
    exact h.2 j u q a b
theorem PRs.one {fp : Nat → Nat → Prop} {w : World} {vs : List Value} {ps : List PV} (h : PRs fp w vs ps) : ∀ v ∈ vs, v.oneCell' = true := by
  intro v hv
  obtain ⟨j, hj⟩ := List.getElem?_of_mem hv
  obtain ⟨p, _, hp⟩ := h.getV hj
  exact hp.one

/-- A slice whose block the call owns from its end on. -/
def OSR (fp : Nat → Nat → Prop) (w : World) (v : Value) (e sz : Nat) (es : List (List PV)) (ow : Option (Nat × Nat)) : Prop :=
  ∃ xs, w.ownsRow 0 e sz v es.length xs ∧ PRs fp w xs es.flatten ∧ (∀ r ∈ es, r.length = sz) ∧ 0 < sz ∧
    ((v = .slice none 0 0 ∧ ow = none) ∨ ∃ g n c, v = .slice (some ⟨g, 0, none⟩) n c ∧ ow = some (g, es.length * sz))

/-- Scalars. -/
def VR0 (fp : Nat → Nat → Prop) (site : Nat → Option Nat) (w : World) (v : Value) (a : AV) (ow : Option (Nat × Nat)) : Prop :=
  match a with
  | .undef => ow = none
  | .none => v = Go.undef ∧ ow = none
  | .pv p => PR fp w v p ∧ ow = none
  | .os e sz es => OSR fp w v e sz es ow
  | .ptr x off => (∃ b, site x = some b ∧ v = .pointer (some ⟨b, off, none⟩)) ∧ ow = none
  | .rp l => (∃ b o, v = .pointer (some ⟨b, o, none⟩) ∧ ∀ (j : Nat) p, l[j]? = some p → fp b (o + j) ∧ ∃ u, w.cell? ⟨b, o + j, none⟩ = some u ∧ PR fp w u p) ∧ ow = none
  | .sr x off len _ => (∃ b c, site x = some b ∧ v = .slice (some ⟨b, off, none⟩) len c ∧ len ≤ c ∧ c ≤ maxLen) ∧ ow = none
  | .fn f => v = .func (.func f) #[] #[] ∧ ow = none
  | _ => False

def at0 (o : Option (Nat × Nat)) (j : Nat) : Option (Nat × Nat) := if j = 0 then o else none

def VR1 (fp : Nat → Nat → Prop) (site : Nat → Option Nat) (w : World) (v : Value) (a : AV) (ow : Nat → Option (Nat × Nat)) : Prop :=
  match a with
  | .pagg l => (∃ cs, v = .agg cs ∧ PRs fp w cs.toList l) ∧ ∀ j, ow j = none
  | .agg l => (∃ cs, v = .agg cs ∧ cs.size = l.length ∧ ∀ (j : Nat) c u, l[j]? = some c → cs[j]? = some u → VR0 fp site w u c (ow j)) ∧ ∀ j, l.length ≤ j → ow j = none
  | a => VR0 fp site w v a (ow 0) ∧ ∀ j, 0 < j → ow j = none

def VR2 (fp : Nat → Nat → Prop) (site : Nat → Option Nat) (w : World) (v : Value) (a : AV) (ow : Nat → Option (Nat × Nat)) : Prop :=
  match a with
  | .tup l => (∃ vs, v = .tuple vs ∧ vs.size = l.length ∧ ∀ (j : Nat) c u, l[j]? = some c → vs[j]? = some u → VR1 fp site w u c (at0 (ow j))) ∧ ∀ j, l.length ≤ j → ow j = none
  | a => VR1 fp site w v a ow

theorem ownsRow_mono {w w' : World} {e sz : Nat} {v : Value} {n : Nat} {xs : List Value} (h : w.ownsRow 0 e sz v n xs) (hg : ∀ g, v.ownBlock = some g → w'.heap[g]? = w.heap[g]?) : w'.ownsRow 0 e sz v n xs := by
  refine ⟨h.1, ?_⟩
  rcases h.2 with h2 | ⟨g, cap, cur, rfl, hb, hc, r⟩
  · exact Or.inl h2
  · exact Or.inr ⟨g, cap, cur, rfl, hb, (hg g rfl).trans hc, r⟩

section mono
variable {fp fp' : Nat → Nat → Prop} {site site' : Nat → Option Nat} {w w' : World}
theorem VR0.mono (h : ∀ b o v, fp b o → w.cell? ⟨b, o, none⟩ = some v → fp' b o ∧ w'.cell? ⟨b, o, none⟩ = some v) (hs : ∀ x b, site x = some b → site' x = some b)
    {v : Value} {a : AV} {ow : Option (Nat × Nat)} (ho : ∀ g e, ow = some (g, e) → w'.heap[g]? = w.heap[g]?) (hv : VR0 fp site w v a ow) : VR0 fp' site' w' v a ow := by
  cases a with
  | undef => exact hv
  | none => exact hv
  | pv p => exact ⟨hv.1.mono h, hv.2⟩
  | os e sz es =>
    obtain ⟨xs, h1, h2, h3, h4, h5⟩ := hv
    refine ⟨xs, ownsRow_mono h1 fun g hg => ?_, h2.mono h, h3, h4, h5⟩
    rcases h5 with ⟨rfl, _⟩ | ⟨g', n, c, rfl, ho'⟩
    · cases hg
    · cases hg; exact ho _ _ ho'
  | ptr x off =>
    obtain ⟨⟨b, h1, h2⟩, h3⟩ := hv
    exact ⟨⟨b, hs _ _ h1, h2⟩, h3⟩
  | rp l =>
    obtain ⟨⟨b, o, h1, h2⟩, h3⟩ := hv
    refine ⟨⟨b, o, h1, fun j p hj => ?_⟩, h3⟩
    obtain ⟨a1, u, a2, a3⟩ := h2 j p hj
    obtain ⟨c1, c2⟩ := h _ _ _ a1 a2
    exact ⟨c1, u, c2, a3.mono h⟩
  | sr x off len sz =>
    obtain ⟨⟨b, c, h1, h2⟩, h3⟩ := hv
    exact ⟨⟨b, c, hs _ _ h1, h2⟩, h3⟩
  | fn f => exact hv
  | pagg l => exact hv
  | agg l => exact hv
  | tup l => exact hv

theorem VR1.mono (h : ∀ b o v, fp b o → w.cell? ⟨b, o, none⟩ = some v → fp' b o ∧ w'.cell? ⟨b, o, none⟩ = some v) (hs : ∀ x b, site x = some b → site' x = some b)
    {v : Value} {a : AV} {ow : Nat → Option (Nat × Nat)} (ho : ∀ j g e, ow j = some (g, e) → w'.heap[g]? = w.heap[g]?) (hv : VR1 fp site w v a ow) : VR1 fp' site' w' v a ow := by
  cases a
  case pagg l =>
    obtain ⟨⟨cs, h1, h2⟩, h3⟩ := hv
    exact ⟨⟨cs, h1, h2.mono h⟩, h3⟩
  case agg l =>
    obtain ⟨⟨cs, h1, h2, h3⟩, h4⟩ := hv
    exact ⟨⟨cs, h1, h2, fun j c u hc hu => (h3 j c u hc hu).mono h hs (ho j)⟩, h4⟩
  all_goals exact ⟨VR0.mono h hs (ho 0) hv.1, hv.2⟩

theorem VR2_eq {fp : Nat → Nat → Prop} {site : Nat → Option Nat} {w : World} {v : Value} {a : AV} {ow : Nat → Option (Nat × Nat)} (h : ∀ l, a ≠ .tup l) : VR2 fp site w v a ow = VR1 fp site w v a ow := by
  cases a <;> first | rfl | exact absurd rfl (h _)
theorem VR1_eq {fp : Nat → Nat → Prop} {site : Nat → Option Nat} {w : World} {v : Value} {a : AV} {ow : Nat → Option (Nat × Nat)} (h : ∀ l, a ≠ .pagg l) (h' : ∀ l, a ≠ .agg l) : VR1 fp site w v a ow = (VR0 fp site w v a (ow 0) ∧ ∀ j, 0 < j → ow j = none) := by
  cases a <;> first | rfl | exact absurd rfl (h _) | exact absurd rfl (h' _)

theorem VR2.mono (h : ∀ b o v, fp b o → w.cell? ⟨b, o, none⟩ = some v → fp' b o ∧ w'.cell? ⟨b, o, none⟩ = some v) (hs : ∀ x b, site x = some b → site' x = some b)
    {v : Value} {a : AV} {ow : Nat → Option (Nat × Nat)} (ho : ∀ j g e, ow j = some (g, e) → w'.heap[g]? = w.heap[g]?) (hv : VR2 fp site w v a ow) : VR2 fp' site' w' v a ow := by
  cases a
  case tup l =>
    obtain ⟨⟨cs, h1, h2, h3⟩, h4⟩ := hv
    refine ⟨⟨cs, h1, h2, fun j c u hc hu => (h3 j c u hc hu).mono h hs (fun i g e hi => ?_)⟩, h4⟩
    unfold at0 at hi
    split at hi
    · exact ho j g e hi
    · cases hi
  all_goals (rw [VR2_eq (by simp)] at hv ⊢; exact VR1.mono h hs ho hv)
end mono

/-- The ghost: where variables lie, and which blocks are owned from which cell on. -/
structure Gh where
  site : Nat → Option Nat
  own : Key → Nat → Option (Nat × Nat)

def Gh.safe (G : Gh) (b o : Nat) : Prop := (∀ x, G.site x ≠ some b) ∧ ∀ k j e, G.own k j = some (b, e) → o < e

/-- What a call was given: the world when it began; what it may read of that (besides what it was lent); the blocks that it was lent. -/
structure Ctx where
  w0 : World
  ok : Nat → Nat → Prop
  L : Nat → Prop

def fp (X : Ctx) (G : Gh) (b o : Nat) : Prop := (X.ok b o ∨ X.w0.heap.size ≤ b ∨ X.L b) ∧ G.safe b o

structure Frame (X : Ctx) (w : World) : Prop where
  os : w.os = X.w0.os
  tape : w.tape = X.w0.tape
  output : w.output = X.w0.output
  size : X.w0.heap.size ≤ w.heap.size
  block : ∀ b, b < X.w0.heap.size → ¬ X.L b → w.heap[b]? = X.w0.heap[b]?
  cell : ∀ b o, X.ok b o → w.cell? ⟨b, o, none⟩ = X.w0.cell? ⟨b, o, none⟩

def AV.isAgg : AV → Prop
  | .pagg _ => True
  | .agg _ => True
  | _ => False

def MR (fp : Nat → Nat → Prop) (site : Nat → Option Nat) (w : World) (c : AV) (bx : Option Nat) (ow : Nat → Option (Nat × Nat)) : Prop :=
  match c with
  | .undef => ∀ j, ow j = none
  | c => ∃ b cs e, bx = some b ∧ w.heap[b]? = some (.cells cs e (0, 0)) ∧ VR1 fp site w (.agg cs) c ow ∧ c.isAgg

structure Rel (X : Ctx) (G : Gh) (s : S) (a : Act) (w : World) : Prop where
  tmp : ∀ t, VR2 (fp X G) G.site w (a.tmps.getD t Go.undef) (s (.t t)) (G.own (.t t))
  mem : ∀ x, MR (fp X G) G.site w (s (.m x)) (G.site x) (G.own (.m x))
  ownI : ∀ k j k' j' b e e', G.own k j = some (b, e) → G.own k' j' = some (b, e') → k = k' ∧ j = j'
  ownS : ∀ k j b e x, G.own k j = some (b, e) → G.site x ≠ some b
  siteI : ∀ x y b, G.site x = some b → G.site y = some b → x = y
  siteF : ∀ x b, G.site x = some b → b < w.heap.size ∧ (X.w0.heap.size ≤ b ∨ (X.L b ∧ 1000 ≤ x))
  ownF : ∀ k j b e, G.own k j = some (b, e) → b < w.heap.size ∧ (X.w0.heap.size ≤ b ∨ X.L b)
  okS : ∀ b o, X.ok b o → G.safe b o
  okB : ∀ b o, X.ok b o → b < X.w0.heap.size
  fr : Frame X w
  df : a.defers = []

theorem MR.mono {fp fp' : Nat → Nat → Prop} {site site' : Nat → Option Nat} {w w' : World} (h : ∀ b o v, fp b o → w.cell? ⟨b, o, none⟩ = some v → fp' b o ∧ w'.cell? ⟨b, o, none⟩ = some v) (hs : ∀ x b, site x = some b → site' x = some b)
    {c : AV} {bx bx' : Option Nat} {ow : Nat → Option (Nat × Nat)} (hb : ∀ b, bx = some b → bx' = some b ∧ w'.heap[b]? = w.heap[b]?) (ho : ∀ j g e, ow j = some (g, e) → w'.heap[g]? = w.heap[g]?) (hv : MR fp site w c bx ow) : MR fp' site' w' c bx' ow := by
  cases c
  case undef => exact hv
  all_goals
    obtain ⟨b, cs, e, h1, h2, h3, h4⟩ := hv
    exact ⟨b, cs, e, (hb b h1).1, ((hb b h1).2).trans h2, VR1.mono h hs ho h3, h4⟩

theorem VR2.undef {fp : Nat → Nat → Prop} {site : Nat → Option Nat} {w : World} (v : Value) : VR2 fp site w v .undef (fun _ => none) := ⟨rfl, fun _ _ => rfl⟩

/-- The world stays; what is owned may have moved. -/
theorem Rel.same {X : Ctx} {G : Gh} {s s' : S} {a a' : Act} {w : World} (h : Rel X G s a w) (own' : Key → Nat → Option (Nat × Nat))
    (h1 : ∀ k j be, own' k j = some be → ∃ k0 j0, G.own k0 j0 = some be)
    (h2 : ∀ k j k' j' b e e', own' k j = some (b, e) → own' k' j' = some (b, e') → k = k' ∧ j = j')
    (ht : ∀ t, VR2 (fp X G) G.site w (a'.tmps.getD t Go.undef) (s' (.t t)) (own' (.t t)))
    (hm : ∀ x, MR (fp X G) G.site w (s' (.m x)) (G.site x) (own' (.m x)))
    (hd : a'.defers = []) : Rel X { G with own := own' } s' a' w := by
  have hsafe : ∀ b o, G.safe b o → Gh.safe { G with own := own' } b o := fun b o hs => ⟨hs.1, fun k j e he => by
    obtain ⟨k0, j0, h0⟩ := h1 k j _ he
    exact hs.2 k0 j0 e h0⟩
  have hfp : ∀ b o v, fp X G b o → w.cell? ⟨b, o, none⟩ = some v → fp X { G with own := own' } b o ∧ w.cell? ⟨b, o, none⟩ = some v := fun b o v hf hc => ⟨⟨hf.1, hsafe b o hf.2⟩, hc⟩
  refine ⟨fun t => (ht t).mono hfp (fun _ _ h => h) (fun _ _ _ _ => rfl), fun x => (hm x).mono hfp (fun _ _ h => h) (fun b hb => ⟨hb, rfl⟩) (fun _ _ _ _ => rfl), h2, fun k j b e x he => ?_, h.siteI, h.siteF, fun k j b e he => ?_, fun b o ho => hsafe b o (h.okS b o ho), h.okB, h.fr, hd⟩
  · obtain ⟨k0, j0, h0⟩ := h1 k j _ he
    exact h.ownS k0 j0 b e x h0
  · obtain ⟨k0, j0, h0⟩ := h1 k j _ he
    exact h.ownF k0 j0 b e h0

/-- Nothing is owned at a key any more. -/
def clr (own : Key → Nat → Option (Nat × Nat)) (k : Key) : Key → Nat → Option (Nat × Nat) := fun k' j => if k' = k then none else own k' j

theorem getD_put_same {a : Act} {d : Nat} (hd : d < a.tmps.size) (v : Value) : (a.put (some d) v).tmps.getD d Go.undef = v := by
  simp [Act.put, Array.getD, hd]
theorem getD_put_other {a : Act} {d t : Nat} (h : t ≠ d) (v : Value) : (a.put (some d) v).tmps.getD t Go.undef = a.tmps.getD t Go.undef := by
  simp only [Act.put, Array.getD_eq_getD_getElem?, Array.getElem?_setIfInBounds_ne (Ne.symm h)]
theorem put_size (a : Act) (d : Option Nat) (v : Value) : (a.put d v).tmps.size = a.tmps.size := by cases d <;> simp [Act.put]
theorem put_defers (a : Act) (d : Option Nat) (v : Value) : (a.put d v).defers = a.defers := by cases d <;> simp [Act.put]

theorem Rel.put {X : Ctx} {G : Gh} {s : S} {a : Act} {w : World} (h : Rel X G s a w) {d : Nat} (hd : d < a.tmps.size) {v : Value} {av : AV}
    (hv : VR2 (fp X G) G.site w v av (fun _ => none)) : Rel X { G with own := clr G.own (.t d) } (s.up (.t d) av) (a.put (some d) v) w := by
  refine h.same _ (fun k j be hb => ?_) (fun k j k' j' b e e' ha hb => ?_) (fun t => ?_) (fun x => ?_) ((put_defers _ _ _).trans h.df)
  · unfold clr at hb
    split at hb
    · cases hb
    · exact ⟨k, j, hb⟩
  · unfold clr at ha hb
    split at ha
    · cases ha
    · split at hb
      · cases hb
      · exact h.ownI _ _ _ _ _ _ _ ha hb
  · by_cases ht : t = d
    · subst ht
      rw [getD_put_same hd, S.up_same]
      have : clr G.own (.t t) (.t t) = fun _ => none := by funext j; simp [clr]
      rw [this]
      exact hv
    · rw [getD_put_other ht, S.up_other _ _ (by simp [ht])]
      have : clr G.own (.t d) (.t t) = G.own (.t t) := by funext j; simp [clr, ht]
      rw [this]
      exact h.tmp t
  · rw [S.up_other _ _ (by simp)]
    have : clr G.own (.t d) (.m x) = G.own (.m x) := by funext j; simp [clr]
    rw [this]
    exact h.mem x
end Go.Abs
end

section
/- The abstract machine's operations that only compute: what they answer, and that the model's operations answer so. No condition. -/
namespace Go.Abs

def AV.dem0 : AV → AV
  | .os _ sz es => .pv (.sl sz es)
  | a => a
def AV.dem1 : AV → AV
  | .agg l => .agg (l.map AV.dem0)
  | a => a.dem0
def AV.dem2 : AV → AV
  | .tup l => .tup (l.map AV.dem1)
  | a => a.dem1

inductive Opd where
  | t (n : Nat)
  | c (v : AV)
def ev (s : S) : Opd → AV
  | .t n => s (.t n)
  | .c v => v
/-- As an operand of what only computes. -/
def evd (s : S) : Opd → AV
  | .t n => (s (.t n)).dem2
  | .c v => v

/-- What a cell of a compared value is. -/
inductive CK where
  | i (k : IntKind)
  | b
  deriving DecidableEq

/-- Operations that only compute. -/
inductive POp where
  | id
  | pick
  | bin (op : BinOp)
  | beq (neg : Bool)
  | peq (neg : Bool)
  | aeq (neg : Bool) (n : Nat) (k : IntKind)
  | seq (neg : Bool) (ks : List CK)
  | sidx
  | un (op : UnOp)
  | conv (k : IntKind)
  | field (off : Nat) (n : Option Nat)
  | index (len sz : Nat) (n : Option Nat)
  | fieldAddr (off : Nat)
  | indexAddr (arr : Option Nat) (sz : Nat)
  | slice (arr : Option Nat) (sz : Nat) (lo hi : Bool)
  | s2ap (n : Nat)
  | len (arr : Option Nat)
  | mm (isMax : Bool)
  | ext (i : Nat)
  | nilc

def ibin (op : BinOp) (k : IntKind) (a b : Int) : Option (Prop × PV) :=
  match op with
  | .add => some (True, .int k (k.wrap (a + b)))
  | .sub => some (True, .int k (k.wrap (a - b)))
  | .mul => some (True, .int k (k.wrap (a * b)))
  | .quo => some (b ≠ 0, .int k (k.wrap (a.tdiv b)))
  | .rem => some (b ≠ 0, .int k (a.tmod b))
  | .and => some (True, .int k (bits .and k a b))
  | .or => some (True, .int k (bits .or k a b))
  | .xor => some (True, .int k (bits .xor k a b))
  | .andNot => some (True, .int k (bits .andNot k a b))
  | .eql => some (True, .bool (a == b))
  | .neq => some (True, .bool (a != b))
  | .lss => some (True, .bool (decide (a < b)))
  | .leq => some (True, .bool (decide (a ≤ b)))
  | .gtr => some (True, .bool (decide (b < a)))
  | .geq => some (True, .bool (decide (b ≤ a)))
  | .shl => none
  | .shr => none

def sbin (op : BinOp) (k : IntKind) (a b : Int) : Option (Prop × PV) :=
  match op with
  | .shl => some (0 ≤ b, .int k (k.wrap (a * 2 ^ (min b.toNat k.bits))))
  | .shr => some (0 ≤ b, .int k (a.fdiv (2 ^ (min b.toNat k.bits))))
  | _ => none

def isShift : BinOp → Bool
  | .shl => true
  | .shr => true
  | _ => false

/-- A cell of an aggregate. -/
def getc : AV → Nat → Option AV
  | .pagg l, j => (l[j]?).map AV.pv
  | .agg l, j => (l[j]?).map AV.dem0
  | .rp l, j => (l[j]?).map AV.pv
  | _, _ => none
/-- Cells that are all pure are told so. -/
def allPV : List AV → Option (List PV)
  | [] => some []
  | .pv p :: r => (allPV r).map (p :: ·)
  | _ :: _ => none
def normA (l : List AV) : AV := match allPV l with
  | some ps => .pagg ps
  | none => .agg l
/-- A run of an aggregate's cells. -/
def getr : AV → Nat → Nat → Option AV
  | .pagg l, o, n => some (.pagg ((l.drop o).take n))
  | .agg l, o, n => some (normA (((l.drop o).take n).map AV.dem0))
  | .rp l, o, n => some (.pagg ((l.drop o).take n))
  | _, _, _ => none
def part1 (a : AV) (o : Nat) : Option Nat → Option AV
  | none => getc a o
  | some n => getr a o n

def pvPick : List AV → Option (Prop × AV)
  | [.pv (.bool c), x, y] => some (True, if c then x else y)
  | _ => none
def pvBin (op : BinOp) : List AV → Option (Prop × AV)
  | [.pv (.int k a), .pv (.int k' b)] =>
    if isShift op then (sbin op k a b).map fun (c, p) => (c, .pv p)
    else if k = k' then (ibin op k a b).map fun (c, p) => (c, .pv p) else none
  | _ => none
def pvBeq (neg : Bool) : List AV → Option (Prop × AV)
  | [.pv (.bool a), .pv (.bool b)] => some (True, .pv (.bool (if neg then a != b else a == b)))
  | _ => none
def pvPeq (neg : Bool) : List AV → Option (Prop × AV)
  | [.pv .nilp, .pv .nilp] => some (True, .pv (.bool (!neg)))
  | [.ptr _ _, .pv .nilp] => some (True, .pv (.bool neg))
  | [.rp _, .pv .nilp] => some (True, .pv (.bool neg))
  | _ => none
def kPV (k : IntKind) : PV → Bool
  | .int k' _ => decide (k' = k)
  | _ => false
def eqPV : PV → PV → Bool
  | .int _ a, .int _ b => a == b
  | .bool a, .bool b => a == b
  | _, _ => false
def eqPVs : List PV → List PV → Bool
  | [], [] => true
  | a :: l, b :: m => eqPV a b && eqPVs l m
  | _, _ => false
def pvAeq (neg : Bool) (n : Nat) (k : IntKind) : List AV → Option (Prop × AV)
  | [.pagg l, .pagg m] => some (l.length = n ∧ m.length = n ∧ l.all (kPV k) = true ∧ m.all (kPV k) = true, .pv (.bool (if neg then !eqPVs l m else eqPVs l m)))
  | _ => none
def ckOne : CK → PV → Bool
  | .i k, .int k' _ => decide (k' = k)
  | .b, .bool _ => true
  | _, _ => false
def ckAll : List CK → List PV → Bool
  | [], [] => true
  | c :: cs, p :: ps => ckOne c p && ckAll cs ps
  | _, _ => false
def pvSeq (neg : Bool) (ks : List CK) : List AV → Option (Prop × AV)
  | [.pagg l, .pagg m] => some (ckAll ks l = true ∧ ckAll ks m = true, .pv (.bool (if neg then !eqPVs l m else eqPVs l m)))
  | _ => none
def pvSidx : List AV → Option (Prop × AV)
  | [.pv (.str b), .pv (.int _ i)] => some (0 ≤ i ∧ i < (b.data.size : Int), .pv (.int .u8 ((b.data.getD i.toNat 0).toNat : Nat)))
  | _ => none
def pvUn (op : UnOp) : List AV → Option (Prop × AV)
  | [.pv (.bool b)] => if op = .not then some (True, .pv (.bool !b)) else none
  | [.pv (.int k n)] => if op = .neg then some (True, .pv (.int k (k.wrap (0 - n)))) else if op = .xor then some (True, .pv (.int k (bits .xor k (if k.signed then -1 else k.max) n))) else none
  | _ => none
def pvConv (k : IntKind) : List AV → Option (Prop × AV)
  | [.pv (.int _ n)] => some (True, .pv (.int k (k.wrap n)))
  | _ => none
def pvField (o : Nat) (n : Option Nat) : List AV → Option (Prop × AV)
  | [.pagg l] => (part1 (.pagg l) o n).map fun r => (True, r)
  | [.agg l] => (part1 (.agg l) o n).map fun r => (True, r)
  | _ => none
def pvIndex (len sz : Nat) (n : Option Nat) : List AV → Option (Prop × AV)
  | [.pagg l, .pv (.int _ i)] => (part1 (.pagg l) (i.toNat * sz) n).map fun r => (0 ≤ i ∧ i < len, r)
  | [.agg l, .pv (.int _ i)] => (part1 (.agg l) (i.toNat * sz) n).map fun r => (0 ≤ i ∧ i < len, r)
  | _ => none
def pvFieldAddr (o : Nat) : List AV → Option (Prop × AV)
  | [.ptr x p] => some (True, .ptr x (p + o))
  | [.rp l] => some (True, .rp (l.drop o))
  | _ => none
def pvIndexArr (n sz : Nat) : List AV → Option (Prop × AV)
  | [.ptr x p, .pv (.int _ i)] => some (0 ≤ i ∧ i < n, .ptr x (p + i.toNat * sz))
  | [.rp l, .pv (.int _ i)] => some (0 ≤ i ∧ i < n, .rp (l.drop (i.toNat * sz)))
  | _ => none
def pvIndexSl (sz : Nat) : List AV → Option (Prop × AV)
  | [.pv (.sl sz' es), .pv (.int _ i)] => match es[i.toNat]? with
    | some r => some (0 ≤ i ∧ sz' = sz, .rp r)
    | none => none
  | [.sr x o len sz', .pv (.int _ i)] => some (0 ≤ i ∧ i < len ∧ sz' = sz, .ptr x (o + i.toNat * sz))
  | _ => none
/-- The bounds of a slice expression. -/
def bnds (n : Nat) (lo hi : Bool) : List AV → Option (Prop × Nat × Nat)
  | [] => if lo = false ∧ hi = false then some (True, 0, n) else none
  | [.pv (.int _ i)] => if lo = true ∧ hi = false then some (0 ≤ i ∧ i ≤ n, i.toNat, n) else if lo = false ∧ hi = true then some (0 ≤ i ∧ i ≤ n, 0, i.toNat) else none
  | [.pv (.int _ i), .pv (.int _ j)] => if lo = true ∧ hi = true then some (0 ≤ i ∧ i ≤ j ∧ j ≤ n, i.toNat, j.toNat) else none
  | _ => none
def pvSliceSl (sz : Nat) (lo hi : Bool) : List AV → Option (Prop × AV)
  | .pv (.sl sz' es) :: r => (bnds es.length lo hi r).map fun (c, a, b) => (sz' = sz ∧ c, .pv (.sl sz ((es.take b).drop a)))
  | .sr x o n sz' :: r => (bnds n lo hi r).map fun (c, a, b) => (sz' = sz ∧ c ∧ a < n, .sr x (o + a * sz) (b - a) sz)
  | _ => none
def pvSliceArr (n sz : Nat) (lo hi : Bool) : List AV → Option (Prop × AV)
  | .ptr x o :: r => (bnds n lo hi r).map fun (c, a, b) => (c ∧ a < n, .sr x (o + a * sz) (b - a) sz)
  | .rp l :: r => (bnds n lo hi r).map fun (c, a, b) => (c ∧ a < n ∧ sz = 1 ∧ l.length = n, .pv (.sl 1 (((l.take b).drop a).map fun p => [p])))
  | _ => none
def pvS2ap (n : Nat) : List AV → Option (Prop × AV)
  | [.sr x o len _] => some (n ≤ len, .ptr x o)
  | [.pv (.sl _ es)] => some (n ≤ es.length ∧ 0 < es.length, .rp es.flatten)
  | _ => none
def pvLen (arr : Option Nat) : List AV → Option (Prop × AV)
  | [.pv (.sl _ es)] => if arr = none then some (True, .pv (.int .i64 es.length)) else none
  | [.sr _ _ n _] => if arr = none then some (True, .pv (.int .i64 n)) else none
  | [_] => match arr with
    | some n => some (True, .pv (.int .i64 n))
    | none => none
  | _ => none
def pvMm (isMax : Bool) : List AV → Option (Prop × AV)
  | [.pv (.int k a), .pv (.int k' b)] => if k = k' then some (True, .pv (.int k (if isMax then (if b > a then b else a) else (if b < a then b else a)))) else none
  | _ => none
def pvExt (i : Nat) : List AV → Option (Prop × AV)
  | [.tup l] => (l[i]?).map fun r => (True, r)
  | _ => none

def pvNilc : List AV → Option (Prop × AV)
  | [.ptr x p] => some (True, .ptr x p)
  | [.rp l] => some (True, .rp l)
  | _ => none

def pval : POp → List AV → Option (Prop × AV)
  | .id, [x] => some (True, x)
  | .id, _ => none
  | .pick, l => pvPick l
  | .bin op, l => pvBin op l
  | .beq n, l => pvBeq n l
  | .peq n, l => pvPeq n l
  | .aeq neg n k, l => pvAeq neg n k l
  | .seq neg ks, l => pvSeq neg ks l
  | .sidx, l => pvSidx l
  | .un op, l => pvUn op l
  | .conv k, l => pvConv k l
  | .field o n, l => pvField o n l
  | .index len sz n, l => pvIndex len sz n l
  | .fieldAddr o, l => pvFieldAddr o l
  | .indexAddr (some n) sz, l => pvIndexArr n sz l
  | .indexAddr none sz, l => pvIndexSl sz l
  | .slice none sz lo hi, l => pvSliceSl sz lo hi l
  | .slice (some n) sz lo hi, l => pvSliceArr n sz lo hi l
  | .s2ap n, l => pvS2ap n l
  | .len arr, l => pvLen arr l
  | .mm m, l => pvMm m l
  | .ext i, l => pvExt i l
  | .nilc, l => pvNilc l

def okC : AV → Value → Bool
  | .pv (.bool a), .bool b => a == b
  | .pv (.int k a), .int k' b => decide (k = k') && decide (a = b)
  | .pv .nilp, .pointer none => true
  | .pv (.str a), .string b => a.data == b.data
  | .os _ sz [], .slice none 0 0 => decide (0 < sz)
  | .pv (.sl _ []), .slice none 0 0 => true
  | _, _ => false
def okX : Opd → Operand → Bool
  | .t n, .tmp m => n == m
  | .c (.fn f), .func g => f == g
  | .c v, .const u => okC v u
  | _, _ => false
def okXs : List Opd → List Operand → Bool
  | [], [] => true
  | x :: xs, y :: ys => okX x y && okXs xs ys
  | _, _ => false

def uBool (P : Program) (t : TypeId) : Bool := match P.underlying t with | some .bool => true | _ => false
def uInt (P : Program) (t : TypeId) (k : IntKind) : Bool := match P.underlying t with | some (.int k') => decide (k = k') | _ => false
def uPtr (P : Program) (t : TypeId) : Bool := match P.underlying t with | some (.pointer _) => true | _ => false
def uSlice (P : Program) (t e : TypeId) : Bool := match P.underlying t with | some (.slice e') => e == e' | _ => false
def uArr (P : Program) (t : TypeId) (n : Nat) (e : TypeId) : Bool := match P.underlying t with | some (.array n' e') => n == n' && e == e' | _ => false
def hasU (P : Program) (t : TypeId) : Bool := (P.underlying t).isSome
def szOf (P : Program) (t : TypeId) (n : Nat) : Bool := decide ((P.info? t).map (·.size) = some n)
def isAggT (P : Program) (t : TypeId) : Option Bool := match P.underlying t with
  | some (.struct _) => some true
  | some (.array _ _) => some true
  | some _ => some false
  | none => none
/-- How a part of type t is read: a cell, or a run of n cells. -/
def okPart (P : Program) (t : TypeId) (n : Option Nat) : Bool := match n with
  | none => decide (isAggT P t = some false) && szOf P t 1
  | some n => decide (isAggT P t = some true) && szOf P t n
def elemOfT (P : Program) (t : TypeId) : Option TypeId := match P.underlying t with
  | some (.slice e) => some e
  | some (.array _ e) => some e
  | _ => none
def fieldOf (P : Program) (t : TypeId) (f : Nat) : Option Field := match P.underlying t with
  | some (.struct fs) => fs[f]?
  | _ => none
def arrOf (P : Program) (t : TypeId) : Option (Option Nat × TypeId) := match P.underlying t with
  | some (.slice e) => some (none, e)
  | some (.array n e) => some (some n, e)
  | _ => none
def okArr (P : Program) (t : TypeId) (arr : Option Nat) (sz : Nat) : Bool := match arrOf P t with
  | some (arr', e) => decide (arr = arr') && szOf P e sz && decide (0 < sz)
  | none => false

/-- The cells that a value of a type is compared by. -/
def partN (P : Program) (t : TypeId) (ks : List CK) : Option (Option Nat) := match isAggT P t with
  | some false => if ks.length = 1 ∧ okPart P t none = true then some none else none
  | some true => if okPart P t (some ks.length) = true then some (some ks.length) else none
  | none => none
def eqKF (P : Program) (rec : TypeId → Option (List CK)) : List Field → Nat → Option (List CK)
  | [], _ => some []
  | f :: r, off => if f.name ≠ "_" ∧ f.offset = off then (match rec f.type with
    | some ks => (match partN P f.type ks with
      | some _ => (match eqKF P rec r (off + ks.length) with
        | some ks' => some (ks ++ ks')
        | none => none)
      | none => none)
    | none => none) else none
def eqK (P : Program) : Nat → TypeId → Option (List CK)
  | 0, _ => none
  | d + 1, t => match P.underlying t with
    | some .bool => some [.b]
    | some (.int k) => some [.i k]
    | some (.struct fs) => if P.stoodInHeld t = false then eqKF P (eqK P d) fs.toList 0 else none
    | some (.array n e) => (match eqK P d e with
      | some ks => (match partN P e ks with
        | some _ => if P.cellsOf e = ks.length then some (List.replicate n ks).flatten else none
        | none => none)
      | none => none)
    | _ => none
/-- Is the model's operation the abstract one? -/
def okP (P : Program) : POp → List Opd → Op → Bool
  | .id, xs, .move y => okXs xs [y]
  | .id, xs, .assign y => okXs xs [y]
  | .nilc, xs, .nilCheck y => okXs xs [y]
  | .pick, xs, .pick c a b => okXs xs [c, a, b]
  | .bin op, xs, .binOp op' _ x y _ => decide (op = op') && okXs xs [x, y]
  | .beq neg, xs, .binOp op t x y _ => decide (op = if neg then .neq else .eql) && uBool P t && okXs xs [x, y]
  | .peq neg, xs, .binOp op t x y _ => decide (op = if neg then .neq else .eql) && uPtr P t && okXs xs [x, y]
  | .aeq neg n k, xs, .binOp op t x y _ => decide (op = if neg then .neq else .eql) && (match P.underlying t with
    | some (.array n' e) => n == n' && uInt P e k && szOf P e 1
    | _ => false) && !(P.eqGuardType P.depth t) && okXs xs [x, y]
  | .seq neg ks, xs, .binOp op t x y _ => decide (op = if neg then .neq else .eql) && decide (eqK P 8 t = some ks) && decide (isAggT P t = some true) && !(P.eqGuardType P.depth t) && okXs xs [x, y]
  | .sidx, xs, .index t x i => (match P.underlying t with
    | some .string => true
    | _ => false) && okXs xs [x, i]
  | .un op, xs, .unOp op' _ x => decide (op = op') && okXs xs [x]
  | .conv k, xs, .convert s d x => hasU P s && uInt P d k && okXs xs [x]
  | .field off n, xs, .field t x f => (match fieldOf P t f with
    | some fd => fd.offset == off && okPart P fd.type n
    | none => false) && okXs xs [x]
  | .index len sz n, xs, .index t x i => (match arrOf P t with
    | some (some len', e) => len == len' && szOf P e sz && okPart P e n
    | _ => false) && okXs xs [x, i]
  | .fieldAddr off, xs, .fieldAddr t x f => (match fieldOf P t f with
    | some fd => fd.offset == off && (match (P.info? fd.type).map (·.size) with
      | some (_ + 1) => true
      | _ => false)
    | none => false) && okXs xs [x]
  | .indexAddr arr sz, xs, .indexAddr t x i => okArr P t arr sz && okXs xs [x, i]
  | .slice arr sz lo hi, xs, .slice t x l h mx => okArr P t arr sz && decide (arr.getD 0 ≤ 1000000) && decide (lo = l.isSome) && decide (hi = h.isSome) && mx.isNone && okXs xs (x :: (l.toList ++ h.toList))
  | .s2ap n, xs, .sliceToArrayPointer t x => (match P.underlying t with
    | some (.array n' _) => n == n'
    | _ => false) && okXs xs [x]
  | .len arr, xs, .call c => (match c.callee with
    | .builtin .len => (match c.argTypes.toList with
      | [t] => (match arrOf P t with
        | some (arr', _) => decide (arr = arr')
        | none => false)
      | _ => false)
    | _ => false) && okXs xs c.args.toList
  | .mm isMax, xs, .call c => (match c.callee with
    | .builtin .max => isMax
    | .builtin .min => !isMax
    | _ => false) && okXs xs c.args.toList
  | .ext i, xs, .extract x i' => i == i' && okXs xs [x]
  | _, _, _ => false

section
variable {fp : Nat → Nat → Prop} {site : Nat → Option Nat} {w : World}

/-- A value that nothing is owned by. -/
def V2 (fp : Nat → Nat → Prop) (site : Nat → Option Nat) (w : World) (v : Value) (a : AV) : Prop := VR2 fp site w v a (fun _ => none)

theorem okC_sound {a : AV} {u : Value} (h : okC a u = true) : V2 fp site w u a := by
  unfold okC at h
  split at h
  · rename_i a b; simp at h; subst h; exact ⟨⟨.bool _, rfl⟩, fun _ _ => rfl⟩
  · rename_i k a k' b; simp at h; obtain ⟨rfl, rfl⟩ := h; exact ⟨⟨.int _ _, rfl⟩, fun _ _ => rfl⟩
  · exact ⟨⟨.nilp, rfl⟩, fun _ _ => rfl⟩
  · rename_i a b
    have e : a = b := by
      obtain ⟨a⟩ := a
      obtain ⟨b⟩ := b
      simpa using h
    subst e
    exact ⟨⟨.str _, rfl⟩, fun _ _ => rfl⟩
  · rename_i e sz
    simp at h
    exact ⟨⟨[], World.ownsRow_nil w 0 e sz, PRs.nil _ _, by simp, h, Or.inl ⟨rfl, rfl⟩⟩, fun _ _ => rfl⟩
  · exact ⟨⟨.sl0 _ _ _ (Nat.zero_le _) (fun _ => rfl), rfl⟩, fun _ _ => rfl⟩
  · cases h
end
end Go.Abs
end

section
/- The abstract machine's operations that only compute answer as the model's do. No condition. -/
namespace Go.Abs

section
variable {fp : Nat → Nat → Prop} {site : Nat → Option Nat} {w : World} {v : Value}
theorem V2.int {k : IntKind} {n : Int} (h : V2 fp site w v (.pv (.int k n))) : v = .int k n := by obtain ⟨⟨h, _⟩, _⟩ := h; cases h; rfl
theorem V2.bool {b : Bool} (h : V2 fp site w v (.pv (.bool b))) : v = .bool b := by obtain ⟨⟨h, _⟩, _⟩ := h; cases h; rfl
theorem V2.nilp (h : V2 fp site w v (.pv .nilp)) : v = .pointer none := by obtain ⟨⟨h, _⟩, _⟩ := h; cases h; rfl
theorem V2.pv {p : PV} (h : V2 fp site w v (.pv p)) : PR fp w v p := h.1.1
theorem V2.mkpv {p : PV} (h : PR fp w v p) : V2 fp site w v (.pv p) := ⟨⟨h, rfl⟩, fun _ _ => rfl⟩
theorem V2.ptr {x o : Nat} (h : V2 fp site w v (.ptr x o)) : ∃ b, site x = some b ∧ v = .pointer (some ⟨b, o, none⟩) := h.1.1
theorem V2.mkptr {x o b : Nat} (h : site x = some b) : V2 fp site w (.pointer (some ⟨b, o, none⟩)) (.ptr x o) := ⟨⟨⟨b, h, rfl⟩, rfl⟩, fun _ _ => rfl⟩
theorem V2.rp {l : List PV} (h : V2 fp site w v (.rp l)) : ∃ b o, v = .pointer (some ⟨b, o, none⟩) ∧ ∀ (j : Nat) p, l[j]? = some p → fp b (o + j) ∧ ∃ u, w.cell? ⟨b, o + j, none⟩ = some u ∧ PR fp w u p := h.1.1
theorem V2.mkrp {l : List PV} {b o : Nat} (h : ∀ (j : Nat) p, l[j]? = some p → fp b (o + j) ∧ ∃ u, w.cell? ⟨b, o + j, none⟩ = some u ∧ PR fp w u p) : V2 fp site w (.pointer (some ⟨b, o, none⟩)) (.rp l) := ⟨⟨⟨b, o, rfl, h⟩, rfl⟩, fun _ _ => rfl⟩
theorem V2.sr {x o n sz : Nat} (h : V2 fp site w v (.sr x o n sz)) : ∃ b c, site x = some b ∧ v = .slice (some ⟨b, o, none⟩) n c ∧ n ≤ c ∧ c ≤ maxLen := h.1.1
theorem V2.mksr {x o n sz b c : Nat} (h : site x = some b) (h1 : n ≤ c) (h2 : c ≤ maxLen) : V2 fp site w (.slice (some ⟨b, o, none⟩) n c) (.sr x o n sz) := ⟨⟨⟨b, c, h, rfl, h1, h2⟩, rfl⟩, fun _ _ => rfl⟩

theorem VR0.dem0n {c : AV} (h : VR0 fp site w v c none) : VR0 fp site w v c.dem0 none := by
  cases c <;> first | exact h | skip
  rename_i e sz es
  obtain ⟨xs, g1, g2, g3, g4, g5⟩ := h
  rcases g5 with ⟨g5, _⟩ | ⟨_, _, _, _, g6⟩
  · have hn : es.length = 0 := by
      rcases g1.2 with ⟨_, hn⟩ | ⟨g, cap, cur, hh, _⟩
      · exact hn
      · rw [g5] at hh; cases hh
    have : es = [] := List.eq_nil_of_length_eq_zero hn
    subst this
    rw [g5]
    exact ⟨.sl0 _ _ _ (Nat.zero_le _) (fun _ => rfl), rfl⟩
  · cases g6
theorem V2.of0 {a : AV} (h : VR0 fp site w v a none) : V2 fp site w v a := by
  cases a <;> first | exact ⟨h, fun _ _ => rfl⟩ | exact h.elim

theorem V2.getc {a r : AV} {o : Nat} (h : V2 fp site w v a) (hr : getc a o = some r) (ha : a.isAgg) : ∃ cs u, v = .agg cs ∧ cs[o]? = some u ∧ VR0 fp site w u r none := by
  cases a <;> simp only [AV.isAgg] at ha
  · rename_i l
    obtain ⟨⟨cs, rfl, h1⟩, _⟩ := h
    simp only [Abs.getc, Option.map_eq_some_iff] at hr
    obtain ⟨p, hp, rfl⟩ := hr
    obtain ⟨u, hu, hpr⟩ := h1.get hp
    exact ⟨cs, u, rfl, by simpa using hu, hpr, rfl⟩
  · rename_i l
    obtain ⟨⟨cs, rfl, h1, h2⟩, _⟩ := h
    simp only [Abs.getc, Option.map_eq_some_iff] at hr
    obtain ⟨c, hc, rfl⟩ := hr
    have ho : o < cs.size := by rw [h1]; exact (List.getElem?_eq_some_iff.1 hc).1
    exact ⟨cs, cs[o], rfl, Array.getElem?_eq_getElem ho, VR0.dem0n (h2 o c cs[o] hc (Array.getElem?_eq_getElem ho))⟩

theorem allPV_spec : ∀ {l : List AV} {ps : List PV}, allPV l = some ps → l = ps.map AV.pv
  | [], ps, h => by simp [allPV] at h; subst h; rfl
  | a :: l, ps, h => by
    cases a <;> simp only [allPV, Option.map_eq_some_iff, reduceCtorEq] at h
    obtain ⟨q, h, rfl⟩ := h
    rw [allPV_spec h]
    rfl
theorem V2.norm {l : List AV} (h : V2 fp site w v (.agg l)) : V2 fp site w v (normA l) := by
  unfold normA
  cases hq : allPV l with
  | none => exact h
  | some ps =>
    obtain ⟨⟨cs, rfl, h1, h2⟩, _⟩ := h
    have e := allPV_spec hq
    subst e
    refine ⟨⟨cs, rfl, by simpa using h1, fun j u p hu hp => ?_⟩, fun _ => rfl⟩
    exact (h2 j (.pv p) u (by simp [hp]) (by simpa using hu)).1
theorem V2.getr {a r : AV} {o n : Nat} (h : V2 fp site w v a) (hr : getr a o n = some r) (ha : a.isAgg) : ∃ cs, v = .agg cs ∧ V2 fp site w (.agg (cs.extract o (o + n))) r := by
  cases a <;> simp only [AV.isAgg] at ha
  · rename_i l
    obtain ⟨⟨cs, rfl, h1⟩, _⟩ := h
    simp only [Abs.getr, Option.some.injEq] at hr
    subst hr
    refine ⟨cs, rfl, ⟨_, rfl, ?_⟩, fun _ => rfl⟩
    have := (h1.drop o).take n
    rw [Array.toList_extract]
    simpa [List.extract_eq_take_drop] using this
  · rename_i l
    have hh := h
    obtain ⟨⟨cs, rfl, h1, h2⟩, _⟩ := h
    simp only [Abs.getr, Option.some.injEq] at hr
    subst hr
    refine ⟨cs, rfl, V2.norm ⟨⟨_, rfl, ?_, ?_⟩, fun _ _ => rfl⟩⟩
    · simp [h1]; omega
    · intro j c u hc hu
      rw [List.getElem?_map, List.getElem?_take, Option.map_eq_some_iff] at hc
      obtain ⟨c', hc, rfl⟩ := hc
      split at hc
      · rw [List.getElem?_drop] at hc
        obtain ⟨cs', u', e, hu', hv⟩ := V2.getc (r := c'.dem0) (o := o + j) hh (by simp [Abs.getc, hc]) trivial
        cases e
        rw [Array.getElem?_extract] at hu
        split at hu
        · rw [hu'] at hu
          cases hu
          exact hv
        · cases hu
      · cases hc

/-- A part of an aggregate value. -/
theorem run_part {P : Program} {t : TypeId} {a r : AV} {o : Nat} {n : Option Nat} (h : V2 fp site w v a) (hr : part1 a o n = some r) (ha : a.isAgg) (ht : okPart P t n = true) :
    ∃ cs u, v = .agg cs ∧ (part t cs o).run P w = .ok u w ∧ V2 fp site w u r := by
  unfold okPart at ht
  unfold part1 at hr
  cases n with
  | none =>
    simp only [Bool.and_eq_true, decide_eq_true_eq] at ht
    obtain ⟨cs, u, rfl, hu, hv⟩ := h.getc hr ha
    refine ⟨cs, u, rfl, ?_, V2.of0 hv⟩
    obtain ⟨h1, _⟩ := ht
    unfold isAggT at h1
    cases hd : P.underlying t with
    | none => simp [hd] at h1
    | some d =>
      rw [hd] at h1
      cases d <;> simp at h1 <;> simp [part, isAgg, run_underlying hd, hu]
  | some n =>
    simp only [Bool.and_eq_true, decide_eq_true_eq, szOf] at ht
    obtain ⟨cs, rfl, hv⟩ := h.getr hr ha
    refine ⟨cs, _, rfl, ?_, hv⟩
    obtain ⟨h1, h2⟩ := ht
    obtain ⟨i, hi, hn⟩ := Option.map_eq_some_iff.1 h2
    subst hn
    unfold isAggT at h1
    cases hd : P.underlying t with
    | none => simp [hd] at h1
    | some d =>
      rw [hd] at h1
      cases d <;> simp at h1 <;> simp [part, isAgg, run_underlying hd, sizeOf, typeInfo, hi]

theorem okXs1 {xs : List Opd} {y : Operand} (h : okXs xs [y] = true) : ∃ x, xs = [x] ∧ okX x y = true := by
  cases xs with
  | nil => simp [okXs] at h
  | cons x r => cases r with
    | nil => exact ⟨x, rfl, by simpa [okXs] using h⟩
    | cons _ _ => simp [okXs] at h
theorem okXs_cons {xs : List Opd} {y : Operand} {ys : List Operand} (h : okXs xs (y :: ys) = true) : ∃ x r, xs = x :: r ∧ okX x y = true ∧ okXs r ys = true := by
  cases xs with
  | nil => simp [okXs] at h
  | cons x r => exact ⟨x, r, rfl, by simpa [okXs] using h⟩
theorem okXs_nil {xs : List Opd} (h : okXs xs [] = true) : xs = [] := by
  cases xs with
  | nil => rfl
  | cons _ _ => simp [okXs] at h
theorem okXs2 {xs : List Opd} {y y' : Operand} (h : okXs xs [y, y'] = true) : ∃ x x', xs = [x, x'] ∧ okX x y = true ∧ okX x' y' = true := by
  obtain ⟨x, r, rfl, h1, h2⟩ := okXs_cons h
  obtain ⟨x', rfl, h3⟩ := okXs1 h2
  exact ⟨x, x', rfl, h1, h3⟩
theorem okXs3 {xs : List Opd} {y y' y'' : Operand} (h : okXs xs [y, y', y''] = true) : ∃ x x' x'', xs = [x, x', x''] ∧ okX x y = true ∧ okX x' y' = true ∧ okX x'' y'' = true := by
  obtain ⟨x, r, rfl, h1, h2⟩ := okXs_cons h
  obtain ⟨x', x'', rfl, h3, h4⟩ := okXs2 h2
  exact ⟨x, x', x'', rfl, h1, h3, h4⟩

/-- What the operands answer. -/
def OpdR (fp : Nat → Nat → Prop) (site : Nat → Option Nat) (w : World) (ρ : Operand → Value) (g : Opd → AV) : Prop := ∀ x y, okX x y = true → V2 fp site w (ρ y) (g x)

def PS (P : Program) (fp : Nat → Nat → Prop) (site : Nat → Option Nat) (w : World) (ρ : Operand → Value) (o : Oper) (r : AV) : Prop :=
  ∃ v, (execOp ρ o).run P w = .ok (.value v) w ∧ V2 fp site w v r

variable {P : Program} {ρ : Operand → Value} {g : Opd → AV} {o : Oper} {xs : List Opd} {c : Prop} {r : AV}

theorem ps_id (H : OpdR fp site w ρ g) (h : okP P .id xs o.op = true) (hp : pval .id (xs.map g) = some (c, r)) (hc : c) : PS P fp site w ρ o r := by
  cases hop : o.op <;> simp only [okP, hop, Bool.false_eq_true] at h
  all_goals
    obtain ⟨x, rfl, hx⟩ := okXs1 h
    simp only [List.map, pval, Option.some.injEq, Prod.mk.injEq] at hp
    obtain ⟨_, rfl⟩ := hp
    exact ⟨_, by simp [execOp, hop], H _ _ hx⟩

theorem ps_pick (H : OpdR fp site w ρ g) (h : okP P .pick xs o.op = true) (hp : pval .pick (xs.map g) = some (c, r)) (hc : c) : PS P fp site w ρ o r := by
  cases hop : o.op <;> simp only [okP, hop, Bool.false_eq_true] at h
  obtain ⟨x, x', x'', rfl, h1, h2, h3⟩ := okXs3 h
  have H1 := H _ _ h1
  have H2 := H _ _ h2
  have H3 := H _ _ h3
  simp only [List.map, pval, pvPick] at hp
  split at hp
  · rename_i c' a b e
    simp only [List.cons.injEq, and_true] at e
    obtain ⟨e1, rfl, rfl⟩ := e
    simp only [Option.some.injEq, Prod.mk.injEq] at hp
    obtain ⟨_, rfl⟩ := hp
    rw [e1] at H1
    have := H1.bool
    cases c'
    · exact ⟨_, by simp [execOp, hop, this, asBool], H3⟩
    · exact ⟨_, by simp [execOp, hop, this, asBool], H2⟩
  · simp at hp

theorem guard_int (op : BinOp) (t : TypeId) (x y : Operand) (k k' : IntKind) (a b : Int) : (eqGuard op t x y (.int k a) (.int k' b)).run P w = .ok () w := by
  unfold eqGuard
  cases op <;> simp
theorem guard_bool (op : BinOp) (t : TypeId) (x y : Operand) (a b : Bool) : (eqGuard op t x y (.bool a) (.bool b)).run P w = .ok () w := by
  unfold eqGuard
  cases op <;> simp
theorem guard_ptr (op : BinOp) (t : TypeId) (x y : Operand) (a b : Option Addr) : (eqGuard op t x y (.pointer a) (.pointer b)).run P w = .ok () w := by
  unfold eqGuard
  cases op <;> simp

theorem equalIn_bool (d : Nat) {t : TypeId} (h : P.underlying t = some .bool) (a b : Bool) : (Op.equalIn (d + 1) t (.bool a) (.bool b)).run P w = .ok (a == b) w := by
  simp [Op.equalIn, run_underlying h]
theorem equal_bool {t : TypeId} (h : P.underlying t = some .bool) (a b : Bool) : (Op.equal t (.bool a) (.bool b)).run P w = .ok (a == b) w := equalIn_bool 9999 h a b
theorem equalIn_ptr0 (d : Nat) {t el : TypeId} (h : P.underlying t = some (.pointer el)) (a : Option Addr) : (Op.equalIn (d + 1) t (.pointer a) (.pointer none)).run P w = .ok a.isNone w := by
  cases a <;> simp [Op.equalIn, run_underlying h]
theorem equal_ptr0 {t el : TypeId} (h : P.underlying t = some (.pointer el)) (a : Option Addr) : (Op.equal t (.pointer a) (.pointer none)).run P w = .ok a.isNone w := equalIn_ptr0 9999 h a

theorem run_shift {op : BinOp} {t : TypeId} {k k' : IntKind} {a b : Int} {c : Prop} {p : PV} (h : sbin op k a b = some (c, p)) (hc : c) :
    ∃ v, (binOp op t (.int k a) (.int k' b)).run P w = .ok v w ∧ PR fp w v p := by
  cases op <;> simp only [sbin, Option.some.injEq, Prod.mk.injEq, reduceCtorEq] at h
  all_goals
    obtain ⟨rfl, rfl⟩ := h
    have : ¬ b < 0 := by omega
    exact ⟨_, by simp only [binOp, Op.shift, this, if_false]; rfl, .int _ _⟩

theorem run_ibin {op : BinOp} {t : TypeId} {k : IntKind} {a b : Int} {c : Prop} {p : PV} (hs : isShift op = false) (h : ibin op k a b = some (c, p)) (hc : c) :
    ∃ v, (binOp op t (.int k a) (.int k b)).run P w = .ok v w ∧ PR fp w v p := by
  cases op <;> simp only [ibin, Option.some.injEq, Prod.mk.injEq, reduceCtorEq] at h <;> simp only [isShift, Bool.true_eq_false] at hs
  all_goals obtain ⟨rfl, rfl⟩ := h
  all_goals first
    | (refine ⟨_, ?_, .int _ _⟩; simp [binOp, Op.intArith]; done)
    | (refine ⟨_, ?_, .int _ _⟩; simp [binOp, Op.intDiv, hc]; done)
    | (refine ⟨_, ?_, .bool _⟩; simp [binOp, Op.intCmp]; done)
    | (refine ⟨_, ?_, .int _ _⟩; simp only [binOp_and, binOp_or, binOp_xor, binOp_andNot]; rfl)

theorem ps_bin {op : BinOp} (H : OpdR fp site w ρ g) (h : okP P (.bin op) xs o.op = true) (hp : pval (.bin op) (xs.map g) = some (c, r)) (hc : c) : PS P fp site w ρ o r := by
  cases hop : o.op <;> simp only [okP, hop, Bool.false_eq_true] at h
  rename_i op' t y y' t'
  simp only [Bool.and_eq_true, decide_eq_true_eq] at h
  obtain ⟨rfl, h⟩ := h
  obtain ⟨x, x', rfl, h1, h2⟩ := okXs2 h
  have H1 := H _ _ h1
  have H2 := H _ _ h2
  simp only [List.map, pval, pvBin] at hp
  split at hp
  · rename_i k a k' b e
    simp only [List.cons.injEq, and_true] at e
    rw [e.1] at H1
    rw [e.2] at H2
    have e1 := H1.int
    have e2 := H2.int
    split at hp
    · rename_i hs
      simp only [Option.map_eq_some_iff, Prod.mk.injEq] at hp
      obtain ⟨⟨c', p⟩, hp, rfl, rfl⟩ := hp
      obtain ⟨v, hv, hr⟩ := run_shift (P := P) (w := w) (fp := fp) (t := t) (k' := k') hp hc
      exact ⟨v, by simp [execOp, hop, e1, e2, guard_int, hv], V2.mkpv hr⟩
    · rename_i hs
      split at hp
      · rename_i hk
        subst hk
        simp only [Option.map_eq_some_iff, Prod.mk.injEq] at hp
        obtain ⟨⟨c', p⟩, hp, rfl, rfl⟩ := hp
        obtain ⟨v, hv, hr⟩ := run_ibin (P := P) (w := w) (fp := fp) (t := t) (by simpa using hs) hp hc
        exact ⟨v, by simp [execOp, hop, e1, e2, guard_int, hv], V2.mkpv hr⟩
      · cases hp
  · cases hp

theorem ps_beq {neg : Bool} (H : OpdR fp site w ρ g) (h : okP P (.beq neg) xs o.op = true) (hp : pval (.beq neg) (xs.map g) = some (c, r)) (hc : c) : PS P fp site w ρ o r := by
  cases hop : o.op <;> simp only [okP, hop, Bool.false_eq_true] at h
  rename_i op' t y y' t'
  simp only [Bool.and_eq_true, decide_eq_true_eq] at h
  obtain ⟨⟨rfl, hu⟩, h⟩ := h
  obtain ⟨x, x', rfl, h1, h2⟩ := okXs2 h
  have H1 := H _ _ h1
  have H2 := H _ _ h2
  simp only [List.map, pval, pvBeq] at hp
  split at hp
  · rename_i a b e
    simp only [List.cons.injEq, and_true] at e
    rw [e.1] at H1
    rw [e.2] at H2
    have e1 := H1.bool
    have e2 := H2.bool
    simp only [Option.some.injEq, Prod.mk.injEq] at hp
    obtain ⟨_, rfl⟩ := hp
    have hd : P.underlying t = some .bool := by
      unfold uBool at hu
      split at hu
      · assumption
      · cases hu
    refine ⟨_, ?_, V2.mkpv (.bool _)⟩
    cases neg <;> simp [execOp, hop, e1, e2, guard_bool, binOp, equal_bool hd, bne]
  · cases hp

theorem ps_peq {neg : Bool} (H : OpdR fp site w ρ g) (h : okP P (.peq neg) xs o.op = true) (hp : pval (.peq neg) (xs.map g) = some (c, r)) (hc : c) : PS P fp site w ρ o r := by
  cases hop : o.op <;> simp only [okP, hop, Bool.false_eq_true] at h
  rename_i op' t y y' t'
  simp only [Bool.and_eq_true, decide_eq_true_eq] at h
  obtain ⟨⟨rfl, hu⟩, h⟩ := h
  obtain ⟨x, x', rfl, h1, h2⟩ := okXs2 h
  have H1 := H _ _ h1
  have H2 := H _ _ h2
  obtain ⟨el, hd⟩ : ∃ el, P.underlying t = some (.pointer el) := by
    unfold uPtr at hu
    split at hu
    · rename_i e he; exact ⟨e, he⟩
    · cases hu
  simp only [List.map, pval, pvPeq] at hp
  split at hp
  · rename_i e
    simp only [List.cons.injEq, and_true] at e
    rw [e.1] at H1
    rw [e.2] at H2
    have e1 := H1.nilp
    have e2 := H2.nilp
    simp only [Option.some.injEq, Prod.mk.injEq] at hp
    obtain ⟨_, rfl⟩ := hp
    refine ⟨_, ?_, V2.mkpv (.bool _)⟩
    cases neg <;> simp [execOp, hop, e1, e2, guard_ptr, binOp, equal_ptr0 hd]
  · rename_i a b e
    simp only [List.cons.injEq, and_true] at e
    rw [e.1] at H1
    rw [e.2] at H2
    obtain ⟨bb, _, e1⟩ := H1.ptr
    have e2 := H2.nilp
    simp only [Option.some.injEq, Prod.mk.injEq] at hp
    obtain ⟨_, rfl⟩ := hp
    refine ⟨_, ?_, V2.mkpv (.bool _)⟩
    cases neg <;> simp [execOp, hop, e1, e2, guard_ptr, binOp, equal_ptr0 hd]
  · rename_i a e
    simp only [List.cons.injEq, and_true] at e
    rw [e.1] at H1
    rw [e.2] at H2
    obtain ⟨bb, oo, e1, _⟩ := H1.rp
    have e2 := H2.nilp
    simp only [Option.some.injEq, Prod.mk.injEq] at hp
    obtain ⟨_, rfl⟩ := hp
    refine ⟨_, ?_, V2.mkpv (.bool _)⟩
    cases neg <;> simp [execOp, hop, e1, e2, guard_ptr, binOp, equal_ptr0 hd]
  · cases hp

theorem equalIn_int (d : Nat) {t : TypeId} {k : IntKind} (h : P.underlying t = some (.int k)) (a b : Int) : (Op.equalIn (d + 1) t (.int k a) (.int k b)).run P w = .ok (a == b) w := by
  simp [Op.equalIn, run_underlying h]
theorem kPV_int {k : IntKind} {p : PV} (h : kPV k p = true) : ∃ a, p = .int k a := by
  cases p <;> simp [kPV] at h
  exact ⟨_, by rw [h]⟩
theorem part_one {e : TypeId} {xs : Array Value} {i : Nat} {k : IntKind} {a : Int} (hs : szOf P e 1 = true) (hg : isAggT P e = some false) (h : xs[i]? = some (.int k a)) : (part e xs i).run P w = .ok (.int k a) w := by
  have hlt : i < xs.size := (Array.getElem?_eq_some_iff.1 h).1
  simp only [szOf, decide_eq_true_eq] at hs
  obtain ⟨ie, hie, hn⟩ := Option.map_eq_some_iff.1 hs
  have hx : xs[i] = .int k a := (Array.getElem?_eq_some_iff.1 h).2
  have hag : (isAgg e).run P w = .ok false w := by
    unfold isAggT at hg
    cases hd : P.underlying e with
    | none => simp [hd] at hg
    | some d => rw [hd] at hg; cases d <;> simp at hg <;> simp [isAgg, run_underlying hd]
  simp [part, sizeOf, typeInfo, hie, hn, hag, hlt, hx]
theorem run_eqItems_int (d : Nat) {e : TypeId} {k : IntKind} (he : P.underlying e = some (.int k)) (hs : szOf P e 1 = true) (hc : P.cellsOf e = 1) (xs ys : Array Value) : ∀ (is : List Nat), (∀ i ∈ is, ∃ a b, xs[i]? = some (.int k a) ∧ ys[i]? = some (.int k b)) →
    (Op.eqItems (d + 1) e (P.cellsOf e) xs ys is).run P w = .ok (is.all fun i => match xs[i]?, ys[i]? with
      | some (.int _ a), some (.int _ b) => a == b
      | _, _ => false) w
  | [], _ => by simp [Op.eqItems]
  | i :: is, h => by
    obtain ⟨a, b, h1, h2⟩ := h i (by simp)
    have hg : isAggT P e = some false := by simp [isAggT, he]
    have ih := run_eqItems_int d he hs hc xs ys is (fun j hj => h j (by simp [hj]))
    rw [hc] at ih ⊢
    simp only [Op.eqItems, Sem.run_bind, Nat.mul_one, part_one hs hg h1, part_one hs hg h2, Result.andThen_ok, equalIn_int d he, List.all_cons, h1, h2]
    cases hab : a == b
    · simp
    · simpa using ih
theorem eqPVs_all {k : IntKind} : ∀ {l m : List PV} {cs ds : List Value}, l.length = m.length → PRs fp w cs l → PRs fp w ds m → l.all (kPV k) = true → m.all (kPV k) = true →
    ((List.range l.length).all fun i => match cs[i]?, ds[i]? with
      | some (.int _ a), some (.int _ b) => a == b
      | _, _ => false) = eqPVs l m
  | [], [], cs, ds, _, h1, h2, _, _ => by simp [eqPVs]
  | p :: l, q :: m, cs, ds, hl, h1, h2, ha, hb => by
    have hcl := h1.1
    have hdl := h2.1
    cases cs with
    | nil => simp at hcl
    | cons c cs =>
      cases ds with
      | nil => simp at hdl
      | cons d ds =>
        simp only [List.all_cons, Bool.and_eq_true] at ha hb
        obtain ⟨a, rfl⟩ := kPV_int ha.1
        obtain ⟨b, rfl⟩ := kPV_int hb.1
        have e1 := h1.2 0 c _ rfl rfl
        have e2 := h2.2 0 d _ rfl rfl
        cases e1
        cases e2
        have t1 : PRs fp w cs l := h1.drop 1
        have t2 : PRs fp w ds m := h2.drop 1
        have ih := eqPVs_all (by simpa using hl) t1 t2 ha.2 hb.2
        rw [List.length_cons, List.range_succ_eq_map, List.all_cons, List.all_map]
        simp only [eqPVs, eqPV]
        rw [← ih]
        rfl
  | [], _ :: _, _, _, hl, _, _, _, _ => by simp at hl
  | _ :: _, [], _, _, hl, _, _, _, _ => by simp at hl
theorem ps_aeq {neg : Bool} {n : Nat} {k : IntKind} (H : OpdR fp site w ρ g) (h : okP P (.aeq neg n k) xs o.op = true) (hp : pval (.aeq neg n k) (xs.map g) = some (c, r)) (hc : c) : PS P fp site w ρ o r := by
  cases hop : o.op <;> simp only [okP, hop, Bool.false_eq_true] at h
  rename_i op' t y y' t'
  simp only [Bool.and_eq_true, decide_eq_true_eq, Bool.not_eq_true'] at h
  obtain ⟨⟨⟨rfl, hu⟩, hgd⟩, h⟩ := h
  obtain ⟨x, x', rfl, h1, h2⟩ := okXs2 h
  have H1 := H _ _ h1
  have H2 := H _ _ h2
  simp only [List.map, pval, pvAeq] at hp
  split at hp
  · rename_i l m e
    simp only [List.cons.injEq, and_true] at e
    rw [e.1] at H1
    rw [e.2] at H2
    obtain ⟨⟨cs, e1, p1⟩, _⟩ := H1
    obtain ⟨⟨ds, e2, p2⟩, _⟩ := H2
    simp only [Option.some.injEq, Prod.mk.injEq] at hp
    obtain ⟨rfl, rfl⟩ := hp
    obtain ⟨q1, q2, q3, q4⟩ := hc
    split at hu
    · rename_i n' el hd
      simp only [Bool.and_eq_true, beq_iff_eq] at hu
      obtain ⟨⟨rfl, hi⟩, hs⟩ := hu
      have hel : P.underlying el = some (.int k) := by
        unfold uInt at hi
        split at hi
        · rename_i k' hk'; simp at hi; subst hi; exact hk'
        · cases hi
      have hce : P.cellsOf el = 1 := by
        simp only [szOf, decide_eq_true_eq] at hs
        simp [Program.cellsOf, hs]
      obtain ⟨ie, hie⟩ : ∃ i, P.info? el = some i := info_of_underlying hel
      have hat : ∀ i ∈ List.range n, ∃ a b, cs[i]? = some (.int k a) ∧ ds[i]? = some (.int k b) := fun i hi => by
        have hin : i < n := List.mem_range.1 hi
        obtain ⟨v1, g1, g2⟩ := p1.get (j := i) (p := l[i]) (List.getElem?_eq_getElem (by omega))
        obtain ⟨v2, g3, g4⟩ := p2.get (j := i) (p := m[i]) (List.getElem?_eq_getElem (by omega))
        obtain ⟨a, ha⟩ := kPV_int (List.all_eq_true.1 q3 _ (List.getElem_mem (l := l) (by omega : i < l.length)))
        obtain ⟨b, hb⟩ := kPV_int (List.all_eq_true.1 q4 _ (List.getElem_mem (l := m) (by omega : i < m.length)))
        rw [ha] at g2
        rw [hb] at g4
        cases g2
        cases g4
        exact ⟨a, b, by rw [← Array.getElem?_toList]; exact g1, by rw [← Array.getElem?_toList]; exact g3⟩
      have hrun := run_eqItems_int (w := w) 9998 hel hs hce cs ds (List.range n) hat
      rw [← run_equalIn_array w 9999 cs ds hd hie] at hrun
      have hall := eqPVs_all (k := k) (cs := cs.toList) (ds := ds.toList) (by omega) p1 p2 q3 q4
      rw [q1] at hall
      simp only [Array.getElem?_toList] at hall
      rw [hall] at hrun
      have heq : (Op.equal t (.agg cs) (.agg ds)).run P w = .ok (eqPVs l m) w := hrun
      refine ⟨.bool (if neg then !eqPVs l m else eqPVs l m), ?_, V2.mkpv (.bool _)⟩
      cases neg <;> simp [execOp, hop, e1, e2, eqGuard, hgd, binOp, heq]
    · cases hu
  · cases hp

theorem V2.str_eq {v : Value} {b : ByteArray} (h : V2 fp site w v (.pv (.str b))) : v = .string b := by
  obtain ⟨⟨h, _⟩, _⟩ := h
  cases h
  rfl
theorem ps_sidx (H : OpdR fp site w ρ g) (h : okP P .sidx xs o.op = true) (hp : pval .sidx (xs.map g) = some (c, r)) (hc : c) : PS P fp site w ρ o r := by
  cases hop : o.op <;> simp only [okP, hop, Bool.false_eq_true] at h
  rename_i t y y'
  simp only [Bool.and_eq_true] at h
  obtain ⟨hf, h⟩ := h
  obtain ⟨x, x', rfl, h1, h2⟩ := okXs2 h
  have H1 := H _ _ h1
  have H2 := H _ _ h2
  split at hf
  · rename_i hu
    simp only [List.map, pval, pvSidx] at hp
    split at hp
    · rename_i b k i e
      simp only [List.cons.injEq, and_true] at e
      rw [e.1] at H1
      rw [e.2] at H2
      have e2 := H2.int
      have e1 := V2.str_eq H1
      simp only [Option.some.injEq, Prod.mk.injEq] at hp
      obtain ⟨rfl, rfl⟩ := hp
      obtain ⟨q1, q2⟩ := hc
      have hlt : i.toNat < b.size := by
        have : b.size = b.data.size := rfl
        omega
      have hg : b[i.toNat]? = some b[i.toNat] := getElem?_pos b i.toNat hlt
      have hd : b.data.getD i.toNat 0 = b[i.toNat] := by
        have hlt' : i.toNat < b.data.size := hlt
        rw [Array.getD_eq_getD_getElem?, Array.getElem?_eq_getElem hlt']
        rfl
      refine ⟨.int .u8 (b[i.toNat].toNat : Nat), by simp [execOp, hop, Instr.index, e1, e2, asIntOf, run_underlying hu, q1, hg], ?_⟩
      rw [hd]
      exact V2.mkpv (.int _ _)
    · cases hp
  · cases hf

theorem ckAll_app : ∀ {ks ks' : List CK} {l : List PV}, ckAll (ks ++ ks') l = true → ckAll ks (l.take ks.length) = true ∧ ckAll ks' (l.drop ks.length) = true
  | [], _, _, h => ⟨by simp [ckAll], by simpa using h⟩
  | _ :: _, _, [], h => by simp [ckAll] at h
  | c :: ks, ks', p :: l, h => by
    simp only [List.cons_append, ckAll, Bool.and_eq_true] at h
    obtain ⟨h1, h2⟩ := h
    obtain ⟨a, b⟩ := ckAll_app h2
    exact ⟨by simp [ckAll, h1, a], by simpa using b⟩
theorem ckAll_len : ∀ {ks : List CK} {l : List PV}, ckAll ks l = true → l.length = ks.length
  | [], [], _ => rfl
  | [], _ :: _, h => by simp [ckAll] at h
  | _ :: _, [], h => by simp [ckAll] at h
  | c :: ks, p :: l, h => by
    simp only [ckAll, Bool.and_eq_true] at h
    simp [ckAll_len h.2]
theorem eqPVs_app : ∀ {a b c d : List PV}, a.length = b.length → eqPVs (a ++ c) (b ++ d) = (eqPVs a b && eqPVs c d)
  | [], [], _, _, _ => by simp [eqPVs]
  | [], _ :: _, _, _, h => by simp at h
  | _ :: _, [], _, _, h => by simp at h
  | x :: a, y :: b, c, d, h => by
    simp only [List.cons_append, eqPVs]
    rw [eqPVs_app (by simpa using h), Bool.and_assoc]
theorem eqPVs_cut (n : Nat) {l m : List PV} (h : l.length = m.length) : eqPVs l m = (eqPVs (l.take n) (m.take n) && eqPVs (l.drop n) (m.drop n)) := by
  conv => lhs; rw [← List.take_append_drop n l, ← List.take_append_drop n m]
  exact eqPVs_app (by simp [h])
/-- A value of a type, by its cells. -/
def V2t (P : Program) (fp : Nat → Nat → Prop) (site : Nat → Option Nat) (w : World) (t : TypeId) (l : List PV) (v : Value) : Prop := match isAggT P t with
  | some true => V2 fp site w v (.pagg l)
  | some false => ∃ p, l = [p] ∧ V2 fp site w v (.pv p)
  | none => False
theorem V2t_part {t : TypeId} {ks : List CK} {pn : Option Nat} (hn : partN P t ks = some pn) {L : List PV} {v : Value} (hv : V2 fp site w v (.pagg L)) {off : Nat} (ho : off + ks.length ≤ L.length) :
    ∃ cs u, v = .agg cs ∧ (part t cs off).run P w = .ok u w ∧ V2t P fp site w t ((L.drop off).take ks.length) u := by
  unfold partN at hn
  split at hn
  · rename_i ha
    split at hn
    · rename_i hk
      obtain ⟨hk1, hk2⟩ := hk
      obtain ⟨p, hp⟩ : ∃ p, L[off]? = some p := ⟨_, List.getElem?_eq_getElem (by omega)⟩
      obtain ⟨cs, u, e, hrun, hu⟩ := run_part (P := P) (r := .pv p) (n := none) (o := off) hv (by simp [part1, getc, hp]) trivial hk2
      refine ⟨cs, u, e, hrun, ?_⟩
      unfold V2t
      rw [ha]
      refine ⟨p, ?_, hu⟩
      rw [hk1, List.take_one, List.head?_drop, hp]
      rfl
    · cases hn
  · rename_i ha
    split at hn
    · rename_i hk
      obtain ⟨cs, u, e, hrun, hu⟩ := run_part (P := P) (r := .pagg ((L.drop off).take ks.length)) (n := some ks.length) (o := off) hv (by simp [part1, getr, ho]) trivial hk
      refine ⟨cs, u, e, hrun, ?_⟩
      unfold V2t
      rw [ha]
      exact hu
    · cases hn
  · cases hn
def EqOK (P : Program) (fp : Nat → Nat → Prop) (site : Nat → Option Nat) (w : World) (D : Nat) (t : TypeId) (ks : List CK) : Prop :=
  ∀ l m v v', ckAll ks l = true → ckAll ks m = true → V2t P fp site w t l v → V2t P fp site w t m v' → (Op.equalIn D t v v').run P w = .ok (eqPVs l m) w
theorem eqKF_sound {D : Nat} {rec : TypeId → Option (List CK)} (hrec : ∀ t ks, rec t = some ks → EqOK P fp site w D t ks) {cs ds : Array Value} {L M : List PV}
    (h1 : V2 fp site w (.agg cs) (.pagg L)) (h2 : V2 fp site w (.agg ds) (.pagg M)) (hLM : L.length = M.length) : ∀ (fs : List Field) (off : Nat) (ks : List CK), eqKF P rec fs off = some ks → off ≤ L.length →
      ckAll ks (L.drop off) = true → ckAll ks (M.drop off) = true → (Op.eqFields D cs ds fs).run P w = .ok (eqPVs (L.drop off) (M.drop off)) w
  | [], off, ks, hk, ho, c1, c2 => by
    simp only [eqKF, Option.some.injEq] at hk
    subst hk
    have e1 := List.eq_nil_of_length_eq_zero (ckAll_len c1)
    have e2 := List.eq_nil_of_length_eq_zero (ckAll_len c2)
    rw [e1, e2]
    simp [Op.eqFields, eqPVs]
  | f :: fs, off, ks, hk, ho, c1, c2 => by
    simp only [eqKF] at hk
    split at hk
    · rename_i hf
      obtain ⟨hf1, hf2⟩ := hf
      split at hk
      · rename_i ks1 hr
        split at hk
        · rename_i pn hpn
          split at hk
          · rename_i ks2 hk2
            simp only [Option.some.injEq] at hk
            subst hk
            have l1 := ckAll_len c1
            rw [List.length_append, List.length_drop] at l1
            obtain ⟨a1, a2⟩ := ckAll_app c1
            obtain ⟨b1, b2⟩ := ckAll_app c2
            rw [List.drop_drop] at a2 b2
            have hoff : off + ks1.length ≤ L.length := by omega
            obtain ⟨cs', u, e, hrun1, hu1⟩ := V2t_part (P := P) hpn h1 hoff
            cases e
            obtain ⟨ds', u', e, hrun2, hu2⟩ := V2t_part (P := P) hpn h2 (show off + ks1.length ≤ M.length by omega)
            cases e
            have hq := hrec _ _ hr _ _ _ _ a1 b1 hu1 hu2
            have ih := eqKF_sound hrec h1 h2 hLM fs (off + ks1.length) ks2 hk2 hoff a2 b2
            rw [eqPVs_cut ks1.length (by simp [hLM])]
            rw [List.drop_drop, List.drop_drop]
            subst hf2
            simp only [Op.eqFields, hf1, ne_eq, not_false_eq_true, if_true, Sem.run_bind, hrun1, hrun2, Result.andThen_ok, hq]
            cases hb : eqPVs ((L.drop f.offset).take ks1.length) ((M.drop f.offset).take ks1.length)
            · simp
            · simpa using ih
          · cases hk
        · cases hk
      · cases hk
    · cases hk

theorem eqArr_sound {D : Nat} {e : TypeId} {ks : List CK} {pn : Option Nat} (hq : EqOK P fp site w D e ks) (hpn : partN P e ks = some pn) {cs ds : Array Value} {L M : List PV}
    (h1 : V2 fp site w (.agg cs) (.pagg L)) (h2 : V2 fp site w (.agg ds) (.pagg M)) (hLM : L.length = M.length) : ∀ (k i : Nat), i * ks.length ≤ L.length →
      ckAll (List.replicate k ks).flatten (L.drop (i * ks.length)) = true → ckAll (List.replicate k ks).flatten (M.drop (i * ks.length)) = true →
      (Op.eqItems D e ks.length cs ds (List.range' i k)).run P w = .ok (eqPVs (L.drop (i * ks.length)) (M.drop (i * ks.length))) w
  | 0, i, ho, c1, c2 => by
    have e1 := List.eq_nil_of_length_eq_zero (ckAll_len c1)
    have e2 := List.eq_nil_of_length_eq_zero (ckAll_len c2)
    rw [e1, e2]
    simp [Op.eqItems, eqPVs]
  | k + 1, i, ho, c1, c2 => by
    rw [List.replicate_succ, List.flatten_cons] at c1 c2
    have l1 := ckAll_len c1
    rw [List.length_append, List.length_drop] at l1
    obtain ⟨a1, a2⟩ := ckAll_app c1
    obtain ⟨b1, b2⟩ := ckAll_app c2
    have hs : i * ks.length + ks.length = (i + 1) * ks.length := (Nat.succ_mul _ _).symm
    rw [List.drop_drop, hs] at a2 b2
    have hoff : i * ks.length + ks.length ≤ L.length := by omega
    obtain ⟨cs', u, e, hrun1, hu1⟩ := V2t_part (P := P) hpn h1 hoff
    cases e
    obtain ⟨ds', u', e, hrun2, hu2⟩ := V2t_part (P := P) hpn h2 (show i * ks.length + ks.length ≤ M.length by omega)
    cases e
    have hq1 := hq _ _ _ _ a1 b1 hu1 hu2
    have ih := eqArr_sound hq hpn h1 h2 hLM k (i + 1) (by omega) a2 b2
    rw [eqPVs_cut ks.length (by simp [hLM]), List.drop_drop, List.drop_drop, hs]
    rw [List.range'_succ]
    simp only [Op.eqItems, Sem.run_bind, hrun1, hrun2, Result.andThen_ok, hq1]
    cases hb : eqPVs ((L.drop (i * ks.length)).take ks.length) ((M.drop (i * ks.length)).take ks.length)
    · simp
    · simpa using ih
theorem eqK_sound : ∀ (d : Nat) (t : TypeId) (ks : List CK), eqK P d t = some ks → ∀ D, d ≤ D → EqOK P fp site w D t ks
  | 0, _, _, h, _, _ => by simp [eqK] at h
  | d + 1, t, ks, h, 0, hD => by omega
  | d + 1, t, ks, h, D + 1, hD => by
    intro l m v v' hl hm hv hv'
    have ih := fun t ks h => eqK_sound d t ks h D (by omega)
    simp only [eqK] at h
    split at h
    · rename_i hu
      simp only [Option.some.injEq] at h
      subst h
      have hg : isAggT P t = some false := by simp [isAggT, hu]
      unfold V2t at hv hv'
      rw [hg] at hv hv'
      obtain ⟨p, rfl, hv⟩ := hv
      obtain ⟨q, rfl, hv'⟩ := hv'
      cases p <;> simp [ckAll, ckOne] at hl
      cases q <;> simp [ckAll, ckOne] at hm
      have e1 := hv.bool
      have e2 := hv'.bool
      subst e1 e2
      simp [Op.equalIn, run_underlying hu, eqPVs, eqPV]
    · rename_i k hu
      simp only [Option.some.injEq] at h
      subst h
      have hg : isAggT P t = some false := by simp [isAggT, hu]
      unfold V2t at hv hv'
      rw [hg] at hv hv'
      obtain ⟨p, rfl, hv⟩ := hv
      obtain ⟨q, rfl, hv'⟩ := hv'
      cases p <;> simp [ckAll, ckOne] at hl
      cases q <;> simp [ckAll, ckOne] at hm
      have e1 := hv.int
      have e2 := hv'.int
      subst e1 e2 hl hm
      simp [Op.equalIn, run_underlying hu, eqPVs, eqPV]
    · rename_i fs hu
      split at h
      · rename_i hst
        have hg : isAggT P t = some true := by simp [isAggT, hu]
        unfold V2t at hv hv'
        rw [hg] at hv hv'
        obtain ⟨⟨cs, rfl, p1⟩, _⟩ := id hv
        obtain ⟨⟨ds, rfl, p2⟩, _⟩ := id hv'
        have hfs : P.fieldsOf t = fs := by simp [Program.fieldsOf, hu]
        rw [run_equalIn_struct w D t cs ds (by rw [hfs]; exact hu) hst, hfs]
        have := eqKF_sound ih hv hv' (by rw [ckAll_len hl, ckAll_len hm]) fs.toList 0 ks h (Nat.zero_le _) hl hm
        simpa using this
      · cases h
    · rename_i n e hu
      split at h
      · rename_i ks1 hr
        split at h
        · rename_i pn hpn
          split at h
          · rename_i hce
            simp only [Option.some.injEq] at h
            subst h
            have hg : isAggT P t = some true := by simp [isAggT, hu]
            unfold V2t at hv hv'
            rw [hg] at hv hv'
            obtain ⟨⟨cs, rfl, p1⟩, _⟩ := id hv
            obtain ⟨⟨ds, rfl, p2⟩, _⟩ := id hv'
            obtain ⟨ie, hie⟩ : ∃ i, P.info? e = some i := by
              unfold partN at hpn
              split at hpn
              · rename_i ha
                unfold isAggT at ha
                cases hd : P.underlying e with
                | none => simp [hd] at ha
                | some _ => exact info_of_underlying hd
              · rename_i ha
                unfold isAggT at ha
                cases hd : P.underlying e with
                | none => simp [hd] at ha
                | some _ => exact info_of_underlying hd
              · cases hpn
            rw [run_equalIn_array w D cs ds hu hie, hce, List.range_eq_range']
            have := eqArr_sound (ih _ _ hr) hpn hv hv' (by rw [ckAll_len hl, ckAll_len hm]) n 0 (by omega) (by simpa using hl) (by simpa using hm)
            simpa using this
          · cases h
        · cases h
      · cases h
    · cases h
theorem ps_seq {neg : Bool} {ks : List CK} (H : OpdR fp site w ρ g) (h : okP P (.seq neg ks) xs o.op = true) (hp : pval (.seq neg ks) (xs.map g) = some (c, r)) (hc : c) : PS P fp site w ρ o r := by
  cases hop : o.op <;> simp only [okP, hop, Bool.false_eq_true] at h
  rename_i op' t y y' t'
  simp only [Bool.and_eq_true, decide_eq_true_eq, Bool.not_eq_true'] at h
  obtain ⟨⟨⟨⟨rfl, hk⟩, hagg⟩, hgd⟩, h⟩ := h
  obtain ⟨x, x', rfl, h1, h2⟩ := okXs2 h
  have H1 := H _ _ h1
  have H2 := H _ _ h2
  simp only [List.map, pval, pvSeq] at hp
  split at hp
  · rename_i l m e
    simp only [List.cons.injEq, and_true] at e
    rw [e.1] at H1
    rw [e.2] at H2
    obtain ⟨⟨cs, e1, p1⟩, _⟩ := id H1
    obtain ⟨⟨ds, e2, p2⟩, _⟩ := id H2
    simp only [Option.some.injEq, Prod.mk.injEq] at hp
    obtain ⟨rfl, rfl⟩ := hp
    obtain ⟨q1, q2⟩ := hc
    have hrun : (Op.equalIn 10000 t (ρ y) (ρ y')).run P w = .ok (eqPVs l m) w := eqK_sound 8 t ks hk 10000 (by decide) l m _ _ q1 q2 (by unfold V2t; rw [hagg]; exact H1) (by unfold V2t; rw [hagg]; exact H2)
    rw [e1, e2] at hrun
    have heq : (Op.equal t (.agg cs) (.agg ds)).run P w = .ok (eqPVs l m) w := hrun
    refine ⟨.bool (if neg then !eqPVs l m else eqPVs l m), ?_, V2.mkpv (.bool _)⟩
    cases neg <;> simp [execOp, hop, e1, e2, eqGuard, hgd, binOp, heq]
  · cases hp

theorem ps_un {op : UnOp} (H : OpdR fp site w ρ g) (h : okP P (.un op) xs o.op = true) (hp : pval (.un op) (xs.map g) = some (c, r)) (hc : c) : PS P fp site w ρ o r := by
  cases hop : o.op <;> simp only [okP, hop, Bool.false_eq_true] at h
  simp only [Bool.and_eq_true, decide_eq_true_eq] at h
  obtain ⟨rfl, h⟩ := h
  obtain ⟨x, rfl, h1⟩ := okXs1 h
  have H1 := H _ _ h1
  simp only [List.map, pval, pvUn] at hp
  split at hp
  · rename_i b e
    simp only [List.cons.injEq, and_true] at e
    rw [e] at H1
    have e1 := H1.bool
    split at hp
    · rename_i ho
      subst ho
      simp only [Option.some.injEq, Prod.mk.injEq] at hp
      obtain ⟨_, rfl⟩ := hp
      exact ⟨_, by simp [execOp, hop, e1, Op.unary], V2.mkpv (.bool _)⟩
    · cases hp
  · rename_i k n e
    simp only [List.cons.injEq, and_true] at e
    rw [e] at H1
    have e1 := H1.int
    split at hp
    · rename_i ho
      subst ho
      simp only [Option.some.injEq, Prod.mk.injEq] at hp
      obtain ⟨_, rfl⟩ := hp
      exact ⟨_, by simp [execOp, hop, e1, Op.unary, Op.intArith], V2.mkpv (.int _ _)⟩
    · split at hp
      · rename_i ho
        subst ho
        simp only [Option.some.injEq, Prod.mk.injEq] at hp
        obtain ⟨_, rfl⟩ := hp
        exact ⟨_, by simp [execOp, hop, e1, Op.unary]; rfl, V2.mkpv (.int _ _)⟩
      · cases hp
  · cases hp

theorem ps_conv {k : IntKind} (H : OpdR fp site w ρ g) (h : okP P (.conv k) xs o.op = true) (hp : pval (.conv k) (xs.map g) = some (c, r)) (hc : c) : PS P fp site w ρ o r := by
  cases hop : o.op <;> simp only [okP, hop, Bool.false_eq_true] at h
  simp only [Bool.and_eq_true] at h
  obtain ⟨⟨hs, hd⟩, h⟩ := h
  obtain ⟨x, rfl, h1⟩ := okXs1 h
  have H1 := H _ _ h1
  obtain ⟨ds, hds⟩ := Option.isSome_iff_exists.1 hs
  rename_i src dst y
  have hdd : P.underlying dst = some (.int k) := by
    unfold uInt at hd
    split at hd
    · rename_i k' hk; simp at hd; subst hd; exact hk
    · cases hd
  simp only [List.map, pval, pvConv] at hp
  split at hp
  · rename_i k' n e
    simp only [List.cons.injEq, and_true] at e
    rw [e] at H1
    have e1 := H1.int
    simp only [Option.some.injEq, Prod.mk.injEq] at hp
    obtain ⟨_, rfl⟩ := hp
    exact ⟨_, by simp [execOp, hop, e1, convert, run_underlying hds, run_underlying hdd, Conv.intToInt], V2.mkpv (.int _ _)⟩
  · cases hp

theorem ps_field {off : Nat} {n : Option Nat} (H : OpdR fp site w ρ g) (h : okP P (.field off n) xs o.op = true) (hp : pval (.field off n) (xs.map g) = some (c, r)) (hc : c) : PS P fp site w ρ o r := by
  cases hop : o.op <;> simp only [okP, hop, Bool.false_eq_true] at h
  rename_i t y f
  simp only [Bool.and_eq_true] at h
  obtain ⟨hf, h⟩ := h
  obtain ⟨x, rfl, h1⟩ := okXs1 h
  have H1 := H _ _ h1
  split at hf
  · rename_i fd hfd
    simp only [Bool.and_eq_true, beq_iff_eq] at hf
    obtain ⟨rfl, hpt⟩ := hf
    unfold fieldOf at hfd
    split at hfd
    · rename_i fs hfs
      have key : ∀ a, part1 a fd.offset n = some r → a.isAgg → V2 fp site w (ρ y) a → PS P fp site w ρ o r := by
        intro a hr ha hv
        obtain ⟨cs, u, e, hrun, hv⟩ := run_part (P := P) hv hr ha hpt
        exact ⟨u, by simp [execOp, hop, Instr.field, e, run_underlying hfs, hfd, asAgg, hrun], hv⟩
      simp only [List.map, pval, pvField] at hp
      split at hp
      · rename_i l e
        simp only [List.cons.injEq, and_true] at e
        rw [e] at H1
        simp only [Option.map_eq_some_iff, Prod.mk.injEq] at hp
        obtain ⟨r', hr, _, rfl⟩ := hp
        exact key _ hr trivial H1
      · rename_i l e
        simp only [List.cons.injEq, and_true] at e
        rw [e] at H1
        simp only [Option.map_eq_some_iff, Prod.mk.injEq] at hp
        obtain ⟨r', hr, _, rfl⟩ := hp
        exact key _ hr trivial H1
      · cases hp
    · cases hfd
  · cases hf

theorem ps_index {len sz : Nat} {n : Option Nat} (H : OpdR fp site w ρ g) (h : okP P (.index len sz n) xs o.op = true) (hp : pval (.index len sz n) (xs.map g) = some (c, r)) (hc : c) : PS P fp site w ρ o r := by
  cases hop : o.op <;> simp only [okP, hop, Bool.false_eq_true] at h
  rename_i t y y'
  simp only [Bool.and_eq_true] at h
  obtain ⟨hf, h⟩ := h
  obtain ⟨x, x', rfl, h1, h2⟩ := okXs2 h
  have H1 := H _ _ h1
  have H2 := H _ _ h2
  split at hf
  · rename_i len' e' hfd
    simp only [Bool.and_eq_true, beq_iff_eq, szOf, decide_eq_true_eq] at hf
    obtain ⟨⟨rfl, hsz⟩, hpt⟩ := hf
    obtain ⟨inf, hi, hsn⟩ := Option.map_eq_some_iff.1 hsz
    unfold arrOf at hfd
    split at hfd <;> simp only [Option.some.injEq, Prod.mk.injEq, reduceCtorEq, false_and] at hfd
    rename_i n' e'' hu
    obtain ⟨rfl, rfl⟩ := hfd
    have key : ∀ a k i, (part1 a (i.toNat * sz) n).map (fun r => (0 ≤ i ∧ i < (n' : Int), r)) = some (c, r) → a.isAgg → V2 fp site w (ρ y) a → V2 fp site w (ρ y') (.pv (.int k i)) → PS P fp site w ρ o r := by
      intro a k i hr ha hv hv'
      simp only [Option.map_eq_some_iff, Prod.mk.injEq] at hr
      obtain ⟨r', hr, rfl, rfl⟩ := hr
      obtain ⟨cs, u, e, hrun, hv⟩ := run_part (P := P) hv hr ha hpt
      have e2 := hv'.int
      exact ⟨u, by simp [execOp, hop, Instr.index, e, e2, asIntOf, run_underlying hu, hc, sizeOf, typeInfo, hi, hsn, hrun], hv⟩
    simp only [List.map, pval, pvIndex] at hp
    split at hp
    · rename_i l k i e
      simp only [List.cons.injEq, and_true] at e
      rw [e.1] at H1
      rw [e.2] at H2
      exact key _ _ _ hp trivial H1 H2
    · rename_i l k i e
      simp only [List.cons.injEq, and_true] at e
      rw [e.1] at H1
      rw [e.2] at H2
      exact key _ _ _ hp trivial H1 H2
    · cases hp
  · cases hf

theorem ps_fieldAddr {off : Nat} (H : OpdR fp site w ρ g) (h : okP P (.fieldAddr off) xs o.op = true) (hp : pval (.fieldAddr off) (xs.map g) = some (c, r)) (hc : c) : PS P fp site w ρ o r := by
  cases hop : o.op <;> simp only [okP, hop, Bool.false_eq_true] at h
  rename_i t y f
  simp only [Bool.and_eq_true] at h
  obtain ⟨hf, h⟩ := h
  obtain ⟨x, rfl, h1⟩ := okXs1 h
  have H1 := H _ _ h1
  split at hf
  · rename_i fd hfd
    simp only [Bool.and_eq_true, beq_iff_eq] at hf
    obtain ⟨rfl, hpt⟩ := hf
    unfold fieldOf at hfd
    split at hfd
    · rename_i fs hfs
      split at hpt
      · rename_i m hm
        obtain ⟨inf, hi, hsn⟩ := Option.map_eq_some_iff.1 hm
        simp only [List.map, pval, pvFieldAddr] at hp
        split at hp
        · rename_i xx p e
          simp only [List.cons.injEq, and_true] at e
          rw [e] at H1
          simp only [Option.some.injEq, Prod.mk.injEq] at hp
          obtain ⟨_, rfl⟩ := hp
          obtain ⟨b, hb, e1⟩ := H1.ptr
          exact ⟨.pointer (some ⟨b, p + fd.offset, none⟩), by simp [execOp, hop, Instr.fieldAt, e1, run_underlying hfs, hfd, Instr.sureAddr, fieldPlace, sizeOf, typeInfo, hi, hsn, Addr.add_mid], V2.mkptr hb⟩
        · rename_i l e
          simp only [List.cons.injEq, and_true] at e
          rw [e] at H1
          simp only [Option.some.injEq, Prod.mk.injEq] at hp
          obtain ⟨_, rfl⟩ := hp
          obtain ⟨b, oo, e1, hl⟩ := H1.rp
          refine ⟨.pointer (some ⟨b, oo + fd.offset, none⟩), by simp [execOp, hop, Instr.fieldAt, e1, run_underlying hfs, hfd, Instr.sureAddr, fieldPlace, sizeOf, typeInfo, hi, hsn, Addr.add_mid], V2.mkrp fun j p hj => ?_⟩
          rw [List.getElem?_drop] at hj
          rw [Nat.add_assoc]
          exact hl _ p hj
        · cases hp
      · cases hpt
    · cases hfd
  · cases hf
end
end Go.Abs
end

section
/- The abstract machine's operations that only compute: addresses and slices. No condition. -/
namespace Go.Abs

section
variable {fp : Nat → Nat → Prop} {site : Nat → Option Nat} {w : World} {v : Value}
variable {P : Program} {ρ : Operand → Value} {g : Opd → AV} {o : Oper} {xs : List Opd} {c : Prop} {r : AV}

theorem okArr_spec {t : TypeId} {arr : Option Nat} {sz : Nat} (h : okArr P t arr sz = true) :
    ∃ e, (match arr with | none => P.underlying t = some (.slice e) | some n => P.underlying t = some (.array n e)) ∧ (∀ w, (sizeOf e).run P w = .ok sz w) ∧ 0 < sz := by
  unfold okArr at h
  split at h
  · rename_i arr' e he
    simp only [Bool.and_eq_true, decide_eq_true_eq, szOf] at h
    obtain ⟨⟨rfl, hs⟩, hp⟩ := h
    obtain ⟨i, hi, hn⟩ := Option.map_eq_some_iff.1 hs
    unfold arrOf at he
    split at he <;> simp only [Option.some.injEq, Prod.mk.injEq, reduceCtorEq, false_and] at he
    all_goals
      obtain ⟨rfl, rfl⟩ := he
      rename_i hu
      exact ⟨_, hu, fun w => by simp [sizeOf, typeInfo, hi, hn], hp⟩
  · cases h

/-- What is read of a slice by its contents. -/
theorem PR.slInv {sz : Nat} {es : List (List PV)} (h : PR fp w v (.sl sz es)) : ∃ A cap, v = .slice A es.length cap ∧ es.length ≤ cap ∧ cap ≤ maxLen ∧ (A = none → cap = 0) ∧
    (es ≠ [] → ∃ b o, A = some ⟨b, o, none⟩ ∧ (∀ r ∈ es, r.length = sz) ∧
      ∀ i r j p, es[i]? = some r → r[j]? = some p → fp b (o + i * sz + j) ∧ ∃ u, w.cell? ⟨b, o + i * sz + j, none⟩ = some u ∧ PR fp w u p) := by
  cases h with
  | sl0 A cap _ h1 h2 => exact ⟨A, cap, rfl, Nat.zero_le _, h1, h2, fun h => absurd rfl h⟩
  | sl b o cap _ _ f h1 h2 h3 h4 h5 =>
    refine ⟨_, cap, rfl, h1, h2, (fun h => by cases h), fun _ => ⟨b, o, rfl, h3, fun i r j p hi hj => ?_⟩⟩
    have hj' : j < sz := by
      rw [← h3 r (List.mem_of_getElem? hi)]
      exact (List.getElem?_eq_some_iff.1 hj).1
    obtain ⟨a1, a2⟩ := h4 i r j hi hj'
    exact ⟨a1, _, a2, h5 i r j p hi hj⟩

theorem PR.mksl {b o cap sz : Nat} {es : List (List PV)} (h1 : es.length ≤ cap) (h2 : cap ≤ maxLen) (h3 : ∀ r ∈ es, r.length = sz)
    (h4 : ∀ i r j p, es[i]? = some r → r[j]? = some p → fp b (o + i * sz + j) ∧ ∃ u, w.cell? ⟨b, o + i * sz + j, none⟩ = some u ∧ PR fp w u p) : PR fp w (.slice (some ⟨b, o, none⟩) es.length cap) (.sl sz es) := by
  classical
  refine .sl b o cap sz es (fun i j => (w.cell? ⟨b, o + i * sz + j, none⟩).getD Go.undef) h1 h2 h3 (fun i r j hi hj => ?_) (fun i r j p hi hj => ?_)
  · have hl := h3 r (List.mem_of_getElem? hi)
    obtain ⟨a1, u, a2, _⟩ := h4 i r j _ hi (List.getElem?_eq_getElem (by omega))
    exact ⟨a1, by simp [a2]⟩
  · obtain ⟨_, u, a2, a3⟩ := h4 i r j p hi hj
    simpa [a2] using a3

theorem asIntOf_run (k : IntKind) (n : Int) : (asIntOf (.int k n)).run P w = .ok (k, n) w := rfl

theorem run_sliceBound {k : IntKind} {i : Int} {y : Nat} {code : BoundsCode} (h : 0 ≤ i ∧ i ≤ y) : (Instr.sliceBound (.int k i) y code).run P w = .ok i.toNat w := by
  simp [Instr.sliceBound, asIntOf_run, h]

/-- The bounds of a slice expression, as the model finds them. -/
theorem run_bnds {n cap : Nat} {isSl lo hi : Bool} {l h : Option Operand} (H : OpdR fp site w ρ g) (hl : lo = l.isSome) (hh : hi = h.isSome) {xs : List Opd} (hx : okXs xs (l.toList ++ h.toList) = true)
    {c : Prop} {a b : Nat} (hb : bnds n lo hi (xs.map g) = some (c, a, b)) (hc : c) (hn : n ≤ cap) :
    (Instr.sliceBounds isSl n cap (l.map ρ) (h.map ρ) none).run P w = .ok (a, b, cap) w ∧ a ≤ b ∧ b ≤ n := by
  subst hl hh
  cases l with
  | none => cases h with
    | none =>
      have := okXs_nil hx
      subst this
      simp [bnds] at hb
      obtain ⟨h0, rfl, rfl⟩ := hb
      exact ⟨by simp [Instr.sliceBounds], by omega, by omega⟩
    | some y =>
      obtain ⟨x, rfl, h1⟩ := okXs1 (by simpa using hx)
      have H1 := H _ _ h1
      simp only [List.map] at hb
      unfold bnds at hb
      split at hb <;> simp at hb
      rename_i k i e
      simp only [List.cons.injEq, and_true] at e
      rw [e] at H1
      obtain ⟨h0, rfl, rfl⟩ := hb
      have hc := h0.2 hc
      refine ⟨?_, by omega, by omega⟩
      have hc' : 0 ≤ i ∧ i ≤ cap := by omega
      simp [Instr.sliceBounds, H1.int, run_sliceBound hc']
  | some z => cases h with
    | none =>
      obtain ⟨x, rfl, h1⟩ := okXs1 (by simpa using hx)
      have H1 := H _ _ h1
      simp only [List.map] at hb
      unfold bnds at hb
      split at hb <;> simp at hb
      rename_i k i e
      simp only [List.cons.injEq, and_true] at e
      rw [e] at H1
      obtain ⟨h0, rfl, rfl⟩ := hb
      have hc := h0.2 hc
      refine ⟨?_, by omega, by omega⟩
      simp [Instr.sliceBounds, H1.int, run_sliceBound hc]
    | some y =>
      obtain ⟨x, x', rfl, h1, h2⟩ := okXs2 (by simpa using hx)
      have H1 := H _ _ h1
      have H2 := H _ _ h2
      simp only [List.map] at hb
      unfold bnds at hb
      split at hb <;> simp at hb
      rename_i k i k' j e
      simp only [List.cons.injEq, and_true] at e
      rw [e.1] at H1
      rw [e.2] at H2
      obtain ⟨h0, rfl, rfl⟩ := hb
      have hc := h0.2 hc
      have hc1 : 0 ≤ j ∧ j ≤ cap := by omega
      have hc2 : 0 ≤ i ∧ i ≤ (j.toNat : Int) := by omega
      refine ⟨?_, by omega, by omega⟩
      simp [Instr.sliceBounds, H1.int, H2.int, run_sliceBound hc1, run_sliceBound hc2]

theorem ps_indexAddr {arr : Option Nat} {sz : Nat} (H : OpdR fp site w ρ g) (h : okP P (.indexAddr arr sz) xs o.op = true) (hp : pval (.indexAddr arr sz) (xs.map g) = some (c, r)) (hc : c) : PS P fp site w ρ o r := by
  cases hop : o.op <;> simp only [okP, hop, Bool.false_eq_true] at h
  rename_i t y y'
  simp only [Bool.and_eq_true] at h
  obtain ⟨hf, h⟩ := h
  obtain ⟨x, x', rfl, h1, h2⟩ := okXs2 h
  have H1 := H _ _ h1
  have H2 := H _ _ h2
  obtain ⟨e, hu, hsz, hpos⟩ := okArr_spec hf
  cases arr with
  | some n =>
    simp only at hu
    simp only [List.map, pval, pvIndexArr] at hp
    split at hp
    · rename_i xx p k i e
      simp only [List.cons.injEq, and_true] at e
      rw [e.1] at H1
      rw [e.2] at H2
      simp only [Option.some.injEq, Prod.mk.injEq] at hp
      obtain ⟨rfl, rfl⟩ := hp
      obtain ⟨b, hb, e1⟩ := H1.ptr
      exact ⟨.pointer (some ⟨b, p + i.toNat * sz, none⟩), by simp [execOp, hop, Instr.indexAt, e1, H2.int, asIntOf_run, run_underlying hu, Instr.sureAddr, hc, hsz, Addr.add_mid], V2.mkptr hb⟩
    · rename_i l k i e
      simp only [List.cons.injEq, and_true] at e
      rw [e.1] at H1
      rw [e.2] at H2
      simp only [Option.some.injEq, Prod.mk.injEq] at hp
      obtain ⟨rfl, rfl⟩ := hp
      obtain ⟨b, oo, e1, hl⟩ := H1.rp
      refine ⟨.pointer (some ⟨b, oo + i.toNat * sz, none⟩), by simp [execOp, hop, Instr.indexAt, e1, H2.int, asIntOf_run, run_underlying hu, Instr.sureAddr, hc, hsz, Addr.add_mid], V2.mkrp fun j p hj => ?_⟩
      rw [List.getElem?_drop] at hj
      rw [Nat.add_assoc]
      exact hl _ p hj
    · cases hp
  | none =>
    simp only at hu
    simp only [List.map, pval, pvIndexSl] at hp
    split at hp
    · rename_i sz' es k i e
      simp only [List.cons.injEq, and_true] at e
      rw [e.1] at H1
      rw [e.2] at H2
      split at hp
      · rename_i row hrow
        simp only [Option.some.injEq, Prod.mk.injEq] at hp
        obtain ⟨rfl, rfl⟩ := hp
        obtain ⟨hi, rfl⟩ := hc
        have hlt := (List.getElem?_eq_some_iff.1 hrow).1
        obtain ⟨A, cap, e1, _, _, _, hne⟩ := H1.pv.slInv
        obtain ⟨b, oo, rfl, hlen, hcell⟩ := hne (by intro hh; rw [hh] at hlt; simp at hlt)
        have hc2 : 0 ≤ i ∧ i < (es.length : Int) := by omega
        refine ⟨.pointer (some ⟨b, oo + i.toNat * sz', none⟩), by simp [execOp, hop, Instr.indexAt, e1, H2.int, asIntOf_run, run_underlying hu, hc2, hsz, Addr.add_mid], V2.mkrp fun j p hj => hcell _ _ _ _ hrow hj⟩
      · cases hp
    · rename_i xx oo len sz' k i e
      simp only [List.cons.injEq, and_true] at e
      rw [e.1] at H1
      rw [e.2] at H2
      simp only [Option.some.injEq, Prod.mk.injEq] at hp
      obtain ⟨rfl, rfl⟩ := hp
      obtain ⟨hi, hi2, rfl⟩ := hc
      obtain ⟨b, cap, hb, e1, _, _⟩ := H1.sr
      exact ⟨.pointer (some ⟨b, oo + i.toNat * sz', none⟩), by simp [execOp, hop, Instr.indexAt, e1, H2.int, asIntOf_run, run_underlying hu, hi, hi2, hsz, Addr.add_mid], V2.mkptr hb⟩
    · cases hp

theorem getElem?_take_drop {α : Type} {l : List α} {a b i : Nat} {x : α} (h : ((l.take b).drop a)[i]? = some x) : l[a + i]? = some x ∧ a + i < b := by
  rw [List.getElem?_drop, List.getElem?_take] at h
  split at h
  · exact ⟨h, by assumption⟩
  · cases h

theorem ps_slice {arr : Option Nat} {sz : Nat} {lo hi : Bool} (H : OpdR fp site w ρ g) (h : okP P (.slice arr sz lo hi) xs o.op = true) (hp : pval (.slice arr sz lo hi) (xs.map g) = some (c, r)) (hc : c) : PS P fp site w ρ o r := by
  cases hop : o.op <;> simp only [okP, hop, Bool.false_eq_true] at h
  rename_i t y l hh mx
  simp only [Bool.and_eq_true, decide_eq_true_eq, Option.isNone_iff_eq_none] at h
  obtain ⟨⟨⟨⟨⟨hf, hsmall⟩, hl⟩, hhi⟩, rfl⟩, h⟩ := h
  obtain ⟨x, rest, rfl, h1, h2⟩ := okXs_cons h
  have H1 := H _ _ h1
  obtain ⟨e, hu, hsz, hpos⟩ := okArr_spec hf
  cases arr with
  | some n =>
    simp only at hu
    simp only [List.map, pval, pvSliceArr] at hp
    split at hp
    · rename_i xx p rr e
      simp only [List.cons.injEq] at e
      obtain ⟨e, rfl⟩ := e
      rw [e] at H1
      simp only [Option.map_eq_some_iff, Prod.mk.injEq] at hp
      obtain ⟨⟨c', a, b⟩, hb, rfl, rfl⟩ := hp
      obtain ⟨hc', hlt⟩ := hc
      dsimp only at hlt hc'
      obtain ⟨hrun, hab, hbn⟩ := run_bnds (P := P) (isSl := false) H hl hhi h2 hb hc' (Nat.le_refl n)
      obtain ⟨blk, hs, e1⟩ := H1.ptr
      have hca : n ≠ a := by omega
      have hmax : n - a ≤ maxLen := by simp only [Option.getD_some] at hsmall; unfold maxLen; omega
      exact ⟨.slice (some ⟨blk, p + a * sz, none⟩) (b - a) (n - a), by simp [execOp, hop, Instr.sliceAt, e1, Instr.sureAddr, run_underlying hu, hrun, hsz, hca, Addr.add_mid], V2.mksr hs (by omega) hmax⟩
    · rename_i ll rr e
      simp only [List.cons.injEq] at e
      obtain ⟨e, rfl⟩ := e
      rw [e] at H1
      simp only [Option.map_eq_some_iff, Prod.mk.injEq] at hp
      obtain ⟨⟨c', a, b⟩, hb, rfl, rfl⟩ := hp
      obtain ⟨hc', hlt, rfl, hll⟩ := hc
      dsimp only at hlt hc'
      obtain ⟨hrun, hab, hbn⟩ := run_bnds (P := P) (isSl := false) H hl hhi h2 hb hc' (Nat.le_refl n)
      obtain ⟨blk, p, e1, hcell⟩ := H1.rp
      have hca : n ≠ a := by omega
      have hmax : n - a ≤ maxLen := by simp only [Option.getD_some] at hsmall; unfold maxLen; omega
      have hlen : (((ll.take b).drop a).map fun q => [q]).length = b - a := by simp; omega
      refine ⟨.slice (some ⟨blk, p + a * 1, none⟩) (b - a) (n - a), by simp [execOp, hop, Instr.sliceAt, e1, Instr.sureAddr, run_underlying hu, hrun, hsz, hca, Addr.add_mid], V2.mkpv ?_⟩
      by_cases hz : b - a = 0
      · have : (((ll.take b).drop a).map fun q => [q]) = [] := List.eq_nil_of_length_eq_zero (by omega)
        dsimp only
        rw [this, hz]
        exact .sl0 _ _ _ (by omega) fun hA => by cases hA
      · dsimp only
        rw [← hlen]
        refine PR.mksl (by omega) (by omega) (fun r hr => by obtain ⟨q, _, rfl⟩ := List.mem_map.1 hr; rfl) fun i r j q hi hj => ?_
        rw [List.getElem?_map, Option.map_eq_some_iff] at hi
        obtain ⟨q', hq', rfl⟩ := hi
        cases j with
        | succ j => simp at hj
        | zero =>
          simp only [List.getElem?_cons_zero, Option.some.injEq] at hj
          subst hj
          obtain ⟨g1, _⟩ := getElem?_take_drop hq'
          have := hcell _ _ g1
          rwa [show p + a * 1 + i * 1 + 0 = p + (a + i) by omega]
    · cases hp
  | none =>
    simp only at hu
    simp only [List.map, pval, pvSliceSl] at hp
    split at hp
    · rename_i sz' es rr e
      simp only [List.cons.injEq] at e
      obtain ⟨e, rfl⟩ := e
      rw [e] at H1
      simp only [Option.map_eq_some_iff, Prod.mk.injEq] at hp
      obtain ⟨⟨c', a, b⟩, hb, rfl, rfl⟩ := hp
      obtain ⟨rfl, hc'⟩ := hc
      obtain ⟨A, cap, e1, hcap, hmax, hnil, hne⟩ := H1.pv.slInv
      obtain ⟨hrun, hab, hbn⟩ := run_bnds (P := P) (isSl := true) (cap := cap) H hl hhi h2 hb hc' hcap
      have hlen : ((es.take b).drop a).length = b - a := by simp; omega
      refine ⟨.slice (if cap = a then A else A.map (·.add (a * sz'))) (b - a) (cap - a), by simp [execOp, hop, Instr.sliceAt, Instr.slice, e1, run_underlying hu, hrun, hsz], V2.mkpv ?_⟩
      by_cases hz : b - a = 0
      · have : (es.take b).drop a = [] := List.eq_nil_of_length_eq_zero (by omega)
        rw [this, hz]
        refine .sl0 _ _ _ (by omega) fun hA => ?_
        split at hA
        · omega
        · simp at hA; have := hnil hA; omega
      · have hne' : es ≠ [] := by intro hh; subst hh; simp at hbn; omega
        obtain ⟨blk, oo, rfl, hlens, hcell⟩ := hne hne'
        have hca : cap ≠ a := by omega
        simp only [hca, if_false, Option.map_some, Addr.add_mid]
        rw [← hlen]
        refine PR.mksl (by omega) (by omega) (fun r hr => hlens r (List.mem_of_mem_take (List.mem_of_mem_drop hr))) fun i r j p hi hj => ?_
        obtain ⟨g1, _⟩ := getElem?_take_drop hi
        have := hcell _ _ _ _ g1 hj
        rwa [show oo + a * sz' + i * sz' + j = oo + (a + i) * sz' + j by rw [Nat.add_mul]; omega]
    · rename_i xx oo n sz' rr e
      simp only [List.cons.injEq] at e
      obtain ⟨e, rfl⟩ := e
      rw [e] at H1
      simp only [Option.map_eq_some_iff, Prod.mk.injEq] at hp
      obtain ⟨⟨c', a, b⟩, hb, rfl, rfl⟩ := hp
      obtain ⟨rfl, hc', hlt⟩ := hc
      dsimp only at hlt hc'
      obtain ⟨blk, cap, hs, e1, hcap, hmax⟩ := H1.sr
      obtain ⟨hrun, hab, hbn⟩ := run_bnds (P := P) (isSl := true) (cap := cap) H hl hhi h2 hb hc' hcap
      have hca : cap ≠ a := by omega
      exact ⟨.slice (some ⟨blk, oo + a * sz', none⟩) (b - a) (cap - a), by simp [execOp, hop, Instr.sliceAt, Instr.slice, e1, run_underlying hu, hrun, hsz, hca, Addr.add_mid], V2.mksr hs (by omega) (by omega)⟩
    · cases hp
end
end Go.Abs
end

section
/- The abstract machine's operations that only compute: the rest, and all together. No condition. -/
namespace Go.Abs

theorem flat_get {α : Type} {sz : Nat} : ∀ {es : List (List α)} {j : Nat} {p : α}, (∀ r ∈ es, r.length = sz) → es.flatten[j]? = some p → ∃ i r k, es[i]? = some r ∧ r[k]? = some p ∧ j = i * sz + k := by
  intro es
  induction es with
  | nil => intro j p _ h; simp at h
  | cons r es ih =>
    intro j p hl h
    have hr := hl r (by simp)
    rw [List.flatten_cons] at h
    by_cases hj : j < r.length
    · rw [List.getElem?_append_left hj] at h
      exact ⟨0, r, j, rfl, h, by simp⟩
    · rw [List.getElem?_append_right (by omega)] at h
      obtain ⟨i, r', k, h1, h2, h3⟩ := ih (fun r hr => hl r (by simp [hr])) h
      exact ⟨i + 1, r', k, by simpa using h1, h2, by rw [Nat.add_mul]; omega⟩
theorem flat_len {α : Type} {sz : Nat} : ∀ {es : List (List α)}, (∀ r ∈ es, r.length = sz) → es.flatten.length = es.length * sz := by
  intro es
  induction es with
  | nil => intro _; simp
  | cons r es ih =>
    intro hl
    rw [List.flatten_cons, List.length_append, ih (fun r hr => hl r (by simp [hr])), hl r (by simp), List.length_cons, Nat.add_mul]
    omega
theorem flat_at {α : Type} {sz : Nat} : ∀ {es : List (List α)} {i k : Nat} {r : List α} {p : α}, (∀ r ∈ es, r.length = sz) → es[i]? = some r → r[k]? = some p → es.flatten[i * sz + k]? = some p := by
  intro es
  induction es with
  | nil => intro i k r p _ h; simp at h
  | cons r0 es ih =>
    intro i k r p hl h h'
    have hr := hl r0 (by simp)
    rw [List.flatten_cons]
    cases i with
    | zero =>
      simp at h
      subst h
      have := (List.getElem?_eq_some_iff.1 h').1
      rw [List.getElem?_append_left (by omega)]
      simpa using h'
    | succ i =>
      rw [List.getElem?_append_right (by rw [Nat.add_mul]; omega)]
      have := ih (fun r hr => hl r (by simp [hr])) (by simpa using h) h'
      rwa [show (i + 1) * sz + k - r0.length = i * sz + k by rw [Nat.add_mul]; omega]

section
variable {fp : Nat → Nat → Prop} {site : Nat → Option Nat} {w : World} {v : Value}
variable {P : Program} {ρ : Operand → Value} {g : Opd → AV} {o : Oper} {xs : List Opd} {c : Prop} {r : AV}

theorem ps_s2ap {n : Nat} (H : OpdR fp site w ρ g) (h : okP P (.s2ap n) xs o.op = true) (hp : pval (.s2ap n) (xs.map g) = some (c, r)) (hc : c) : PS P fp site w ρ o r := by
  cases hop : o.op <;> simp only [okP, hop, Bool.false_eq_true] at h
  rename_i t y
  simp only [Bool.and_eq_true] at h
  obtain ⟨hf, h⟩ := h
  obtain ⟨x, rfl, h1⟩ := okXs1 h
  have H1 := H _ _ h1
  split at hf
  · rename_i n' e hu
    simp only [beq_iff_eq] at hf
    subst hf
    simp only [List.map, pval, pvS2ap] at hp
    split at hp
    · rename_i xx p len sz e
      simp only [List.cons.injEq, and_true] at e
      rw [e] at H1
      simp only [Option.some.injEq, Prod.mk.injEq] at hp
      obtain ⟨rfl, rfl⟩ := hp
      obtain ⟨b, cap, hs, e1, _, _⟩ := H1.sr
      have hn : ¬ len < n := by omega
      exact ⟨.pointer (some ⟨b, p, none⟩), by simp [execOp, hop, Instr.arrayAt, e1, run_underlying hu, hn], V2.mkptr hs⟩
    · rename_i sz es e
      simp only [List.cons.injEq, and_true] at e
      rw [e] at H1
      simp only [Option.some.injEq, Prod.mk.injEq] at hp
      obtain ⟨rfl, rfl⟩ := hp
      obtain ⟨A, cap, e1, _, _, _, hne⟩ := H1.pv.slInv
      obtain ⟨b, oo, rfl, hlens, hcell⟩ := hne (by intro hh; subst hh; simp at hc)
      have hn : ¬ es.length < n := by omega
      refine ⟨.pointer (some ⟨b, oo, none⟩), by simp [execOp, hop, Instr.arrayAt, e1, run_underlying hu, hn], V2.mkrp fun j p hj => ?_⟩
      obtain ⟨i, rr, k, g1, g2, rfl⟩ := flat_get hlens hj
      have := hcell _ _ _ _ g1 g2
      rwa [Nat.add_assoc] at this
    · cases hp
  · cases hf

theorem ps_len {arr : Option Nat} (H : OpdR fp site w ρ g) (h : okP P (.len arr) xs o.op = true) (hp : pval (.len arr) (xs.map g) = some (c, r)) (hc : c) : PS P fp site w ρ o r := by
  cases hop : o.op <;> simp only [okP, hop, Bool.false_eq_true] at h
  rename_i cl
  simp only [Bool.and_eq_true] at h
  obtain ⟨hf, h⟩ := h
  split at hf
  · rename_i hcal
    split at hf
    · rename_i t ht
      split at hf
      · rename_i arr' e he
        simp only [decide_eq_true_eq] at hf
        subst hf
        have hat : cl.argTypes = #[t] := by cases hh : cl.argTypes with | mk l => simp only [hh] at ht; rw [ht]
        have key : ∀ y x, cl.args.toList = [y] → okX x y = true → xs = [x] → PS P fp site w ρ o r := by
          intro y x hy hx hxs
          subst hxs
          have hargs : cl.args = #[y] := by cases hh : cl.args with | mk l => simp only [hh] at hy; rw [hy]
          have H1 := H _ _ hx
          have hrun : ∀ _v : Value, (execOp ρ o).run P w = ((Builtin.len_ #[t] o.type #[ρ y]).run P w).andThen (fun v w => .ok (.value v) w) := by
            intro v
            simp [execOp, hop, resolve, invoke, builtin, hcal, hargs, hat]
          simp only [List.map, pval, pvLen] at hp
          split at hp
          · rename_i sz es e
            simp only [List.cons.injEq, and_true] at e
            rw [e] at H1
            split at hp
            · rename_i hn
              subst hn
              simp only [Option.some.injEq, Prod.mk.injEq] at hp
              obtain ⟨_, rfl⟩ := hp
              obtain ⟨A, cap, e1, _⟩ := H1.pv.slInv
              unfold arrOf at he
              split at he <;> simp at he
              rename_i hu
              exact ⟨.int .i64 es.length, by rw [hrun .nilIface, e1]; simp [Builtin.len_, run_underlying hu, goInt], V2.mkpv (.int _ _)⟩
            · cases hp
          · rename_i xx p n sz e
            simp only [List.cons.injEq, and_true] at e
            rw [e] at H1
            split at hp
            · rename_i hn
              subst hn
              simp only [Option.some.injEq, Prod.mk.injEq] at hp
              obtain ⟨_, rfl⟩ := hp
              obtain ⟨b, cap, _, e1, _⟩ := H1.sr
              unfold arrOf at he
              split at he <;> simp at he
              rename_i hu
              exact ⟨.int .i64 n, by rw [hrun .nilIface, e1]; simp [Builtin.len_, run_underlying hu, goInt], V2.mkpv (.int _ _)⟩
            · cases hp
          · split at hp
            · rename_i n
              simp only [Option.some.injEq, Prod.mk.injEq] at hp
              obtain ⟨_, rfl⟩ := hp
              unfold arrOf at he
              split at he <;> simp at he
              rename_i n' _ hu
              obtain ⟨rfl, rfl⟩ := he
              refine ⟨.int .i64 n', ?_, V2.mkpv (.int _ _)⟩
              rw [hrun .nilIface]
              cases ρ y <;> simp [Builtin.len_, run_underlying hu, goInt]
            · cases hp
          · cases hp
        cases hl : cl.args.toList with
        | nil =>
          rw [hl] at h
          have := okXs_nil h
          subst this
          simp [pval, pvLen] at hp
        | cons y ys =>
          rw [hl] at h
          obtain ⟨x, rest, rfl, g1, g2⟩ := okXs_cons h
          cases ys with
          | nil =>
            have := okXs_nil g2
            subst this
            exact key y x hl g1 rfl
          | cons y' ys' =>
            obtain ⟨x', rest', rfl, _, _⟩ := okXs_cons g2
            simp [pval, pvLen] at hp
      · cases hf
    · cases hf
  · cases hf

theorem ps_mm {isMax : Bool} (H : OpdR fp site w ρ g) (h : okP P (.mm isMax) xs o.op = true) (hp : pval (.mm isMax) (xs.map g) = some (c, r)) (hc : c) : PS P fp site w ρ o r := by
  cases hop : o.op <;> simp only [okP, hop, Bool.false_eq_true] at h
  rename_i cl
  simp only [Bool.and_eq_true] at h
  obtain ⟨hf, h⟩ := h
  cases hl : cl.args.toList with
  | nil => rw [hl] at h; have := okXs_nil h; subst this; simp [pval, pvMm] at hp
  | cons y ys =>
    rw [hl] at h
    obtain ⟨x, rest, rfl, g1, g2⟩ := okXs_cons h
    cases ys with
    | nil => have := okXs_nil g2; subst this; simp [pval, pvMm] at hp
    | cons y' ys' =>
      obtain ⟨x', rest', rfl, g3, g4⟩ := okXs_cons g2
      cases ys' with
      | cons y'' ys'' =>
        obtain ⟨x'', rest'', rfl, _, _⟩ := okXs_cons g4
        simp [pval, pvMm] at hp
      | nil =>
        have := okXs_nil g4
        subst this
        have hargs : cl.args = #[y, y'] := by cases hh : cl.args with | mk l => simp only [hh] at hl; rw [hl]
        have H1 := H _ _ g1
        have H2 := H _ _ g3
        simp only [List.map, pval, pvMm] at hp
        split at hp
        · rename_i k a k' b e
          simp only [List.cons.injEq, and_true] at e
          rw [e.1] at H1
          rw [e.2] at H2
          split at hp
          · simp only [Option.some.injEq, Prod.mk.injEq] at hp
            obtain ⟨_, rfl⟩ := hp
            split at hf
            · rename_i hcal
              subst hf
              exact ⟨.int k (if b > a then b else a), by simp [execOp, hop, resolve, invoke, builtin, hcal, hargs, Builtin.max_, Builtin.max2, H1.int, H2.int], V2.mkpv (.int _ _)⟩
            · rename_i hcal
              simp only [Bool.not_eq_true'] at hf
              subst hf
              exact ⟨.int k (if b < a then b else a), by simp [execOp, hop, resolve, invoke, builtin, hcal, hargs, Builtin.min_, Builtin.min2, H1.int, H2.int], V2.mkpv (.int _ _)⟩
            · cases hf
          · cases hp
        · cases hp

theorem ps_ext {i : Nat} (H : OpdR fp site w ρ g) (h : okP P (.ext i) xs o.op = true) (hp : pval (.ext i) (xs.map g) = some (c, r)) (hc : c) : PS P fp site w ρ o r := by
  cases hop : o.op <;> simp only [okP, hop, Bool.false_eq_true] at h
  simp only [Bool.and_eq_true, beq_iff_eq] at h
  obtain ⟨rfl, h⟩ := h
  obtain ⟨x, rfl, h1⟩ := okXs1 h
  have H1 := H _ _ h1
  simp only [List.map, pval, pvExt] at hp
  split at hp
  · rename_i l e
    simp only [List.cons.injEq, and_true] at e
    rw [e] at H1
    simp only [Option.map_eq_some_iff, Prod.mk.injEq] at hp
    obtain ⟨r', hr, _, rfl⟩ := hp
    obtain ⟨⟨vs, e1, h2, h3⟩, _⟩ := H1
    have hi : i < vs.size := by rw [h2]; exact (List.getElem?_eq_some_iff.1 hr).1
    have := h3 i r' vs[i] hr (Array.getElem?_eq_getElem hi)
    have e0 : at0 (none : Option (Nat × Nat)) = fun _ => none := by funext j; simp [at0]
    rw [e0] at this
    refine ⟨vs[i], by simp [execOp, hop, Instr.extract, e1, Array.getElem?_eq_getElem hi], ?_⟩
    cases r' <;> first | exact this | exact this.1.elim
  · cases hp

theorem ps_nilc (H : OpdR fp site w ρ g) (h : okP P .nilc xs o.op = true) (hp : pval .nilc (xs.map g) = some (c, r)) (hc : c) : PS P fp site w ρ o r := by
  cases hop : o.op <;> simp only [okP, hop, Bool.false_eq_true] at h
  obtain ⟨x, rfl, h1⟩ := okXs1 h
  have H1 := H _ _ h1
  simp only [List.map, pval, pvNilc] at hp
  split at hp
  · rename_i xx p e
    simp only [List.cons.injEq, and_true] at e
    rw [e] at H1
    simp only [Option.some.injEq, Prod.mk.injEq] at hp
    obtain ⟨_, rfl⟩ := hp
    obtain ⟨b, hs, e1⟩ := H1.ptr
    exact ⟨_, by simp [execOp, hop, e1], V2.mkptr hs⟩
  · rename_i l e
    simp only [List.cons.injEq, and_true] at e
    rw [e] at H1
    simp only [Option.some.injEq, Prod.mk.injEq] at hp
    obtain ⟨_, rfl⟩ := hp
    obtain ⟨b, oo, e1, hl⟩ := H1.rp
    exact ⟨_, by simp [execOp, hop, e1], V2.mkrp hl⟩
  · cases hp

theorem pSound {po : POp} (H : OpdR fp site w ρ g) (h : okP P po xs o.op = true) (hp : pval po (xs.map g) = some (c, r)) (hc : c) : PS P fp site w ρ o r := by
  cases po with
  | id => exact ps_id H h hp hc
  | pick => exact ps_pick H h hp hc
  | bin op => exact ps_bin H h hp hc
  | beq n => exact ps_beq H h hp hc
  | peq n => exact ps_peq H h hp hc
  | aeq neg n k => exact ps_aeq H h hp hc
  | seq neg ks => exact ps_seq H h hp hc
  | sidx => exact ps_sidx H h hp hc
  | un op => exact ps_un H h hp hc
  | conv k => exact ps_conv H h hp hc
  | field off n => exact ps_field H h hp hc
  | index l s n => exact ps_index H h hp hc
  | fieldAddr off => exact ps_fieldAddr H h hp hc
  | indexAddr a s => exact ps_indexAddr H h hp hc
  | slice a s lo hi => exact ps_slice H h hp hc
  | s2ap n => exact ps_s2ap H h hp hc
  | len a => exact ps_len H h hp hc
  | mm m => exact ps_mm H h hp hc
  | ext i => exact ps_ext H h hp hc
  | nilc => exact ps_nilc H h hp hc
end
end Go.Abs
end

section
/- What the abstract machine's memory operations do to what is known: new variables, stores, appends. No condition. -/
namespace Go.Abs
open Go.RowKit

section
variable {fp : Nat → Nat → Prop} {site : Nat → Option Nat} {w : World} {v : Value}

theorem cell_of_heap {g : Nat} {cs : Array Value} {e : TypeId} {fr : Nat × Nat} (h : w.heap[g]? = some (.cells cs e fr)) (j : Nat) : w.cell? ⟨g, j, none⟩ = cs[j]? := by
  simp [World.cell?, h]
theorem ownsRow_form {e sz n : Nat} {xs : List Value} (h : w.ownsRow 0 e sz v n xs) {g n' c : Nat} (hv : v = .slice (some ⟨g, 0, none⟩) n' c) :
    n' = n ∧ n ≤ c ∧ c ≤ maxLen ∧ ∀ (j : Nat) u, xs[j]? = some u → w.cell? ⟨g, j, none⟩ = some u := by
  rcases h.2 with ⟨h1, _⟩ | ⟨g', cap, cur, h1, _, h2, h3, h4, _, h5⟩
  · rw [h1] at hv; cases hv
  · rw [h1] at hv
    cases hv
    refine ⟨rfl, h3, h4, fun j u hu => ?_⟩
    rw [cell_of_heap h2]
    rw [← h5, List.getElem?_take] at hu
    split at hu
    · simpa using hu
    · cases hu

theorem VR0.dem {a : AV} {ow : Option (Nat × Nat)} (h : VR0 fp site w v a ow) (hf : ∀ g e, ow = some (g, e) → ∀ o, o < e → fp g o) : VR0 fp site w v a.dem0 none := by
  cases a with
  | os e sz es =>
    obtain ⟨xs, h1, h2, h3, h4, h5⟩ := h
    rcases h5 with ⟨rfl, rfl⟩ | ⟨g, n, c, rfl, rfl⟩
    · exact VR0.dem0n ⟨xs, h1, h2, h3, h4, Or.inl ⟨rfl, rfl⟩⟩
    · obtain ⟨rfl, g1, g2, g3⟩ := ownsRow_form h1 rfl
      refine ⟨PR.mksl g1 g2 h3 fun i r j p hi hj => ?_, rfl⟩
      have hfl := flat_at h3 hi hj
      obtain ⟨u, hu, hp⟩ := h2.get hfl
      have hlt := (List.getElem?_eq_some_iff.1 hfl).1
      rw [flat_len h3] at hlt
      rw [Nat.zero_add]
      exact ⟨hf g _ rfl _ hlt, u, g3 _ u hu, hp⟩
  | undef => exact rfl
  | none => exact ⟨h.1, rfl⟩
  | pv p => exact ⟨h.1, rfl⟩
  | ptr x o => exact ⟨h.1, rfl⟩
  | rp l => exact ⟨h.1, rfl⟩
  | sr x o n sz => exact ⟨h.1, rfl⟩
  | fn f => exact ⟨h.1, rfl⟩
  | pagg l => exact h.elim
  | agg l => exact h.elim
  | tup l => exact h.elim

theorem VR1.dem {a : AV} {ow : Nat → Option (Nat × Nat)} (h : VR1 fp site w v a ow) (hf : ∀ j g e, ow j = some (g, e) → ∀ o, o < e → fp g o) : VR1 fp site w v a.dem1 (fun _ => none) := by
  cases a
  case pagg l => exact ⟨h.1, fun _ => rfl⟩
  case agg l =>
    obtain ⟨⟨cs, h1, h2, h3⟩, h4⟩ := h
    refine ⟨⟨cs, h1, by simp [h2], fun j c u hc hu => ?_⟩, fun _ _ => rfl⟩
    rw [List.getElem?_map, Option.map_eq_some_iff] at hc
    obtain ⟨c', hc, rfl⟩ := hc
    exact (h3 j c' u hc hu).dem (hf j)
  case os e sz es => exact ⟨VR0.dem (a := .os e sz es) h.1 (hf 0), fun _ _ => rfl⟩
  case undef => exact ⟨VR0.dem (a := .undef) h.1 (hf 0), fun _ _ => rfl⟩
  case none => exact ⟨VR0.dem (a := .none) h.1 (hf 0), fun _ _ => rfl⟩
  case pv p => exact ⟨VR0.dem (a := .pv p) h.1 (hf 0), fun _ _ => rfl⟩
  case ptr x o => exact ⟨VR0.dem (a := .ptr x o) h.1 (hf 0), fun _ _ => rfl⟩
  case rp l => exact ⟨VR0.dem (a := .rp l) h.1 (hf 0), fun _ _ => rfl⟩
  case sr x o n sz => exact ⟨VR0.dem (a := .sr x o n sz) h.1 (hf 0), fun _ _ => rfl⟩
  case fn f => exact ⟨VR0.dem (a := .fn f) h.1 (hf 0), fun _ _ => rfl⟩
  case tup l => exact h.1.elim

theorem dem1_tup {a : AV} {l : List AV} (h : a.dem1 = .tup l) : a = .tup l := by
  cases a <;> first | exact h | cases h

theorem VR2.dem {a : AV} {ow : Nat → Option (Nat × Nat)} (h : VR2 fp site w v a ow) (hf : ∀ j g e, ow j = some (g, e) → ∀ o, o < e → fp g o) : V2 fp site w v a.dem2 := by
  by_cases ht : ∃ l, a = .tup l
  · obtain ⟨l, rfl⟩ := ht
    obtain ⟨⟨vs, h1, h2, h3⟩, h4⟩ := h
    refine ⟨⟨vs, h1, by simp [h2], fun j c u hc hu => ?_⟩, fun _ _ => rfl⟩
    rw [List.getElem?_map, Option.map_eq_some_iff] at hc
    obtain ⟨c', hc, rfl⟩ := hc
    have e0 : at0 (none : Option (Nat × Nat)) = fun _ => none := by funext j; simp [at0]
    rw [e0]
    refine (h3 j c' u hc hu).dem fun i g e he => ?_
    unfold at0 at he
    split at he
    · exact hf j g e he
    · cases he
  · have hn : ∀ l, a ≠ .tup l := fun l hl => ht ⟨l, hl⟩
    rw [VR2_eq hn] at h
    have e : a.dem2 = a.dem1 := by cases a <;> first | rfl | exact absurd rfl (hn _)
    rw [e]
    unfold V2
    rw [VR2_eq (fun l hl => hn l (dem1_tup hl))]
    exact h.dem hf
end

section
variable {X : Ctx} {G : Gh} {s : S} {a : Act} {w : World}

theorem Rel.ownfp (h : Rel X G s a w) {k : Key} {j g e : Nat} (ho : G.own k j = some (g, e)) {o : Nat} (hlt : o < e) : fp X G g o := by
  obtain ⟨_, h2⟩ := h.ownF k j g e ho
  refine ⟨?_, fun x => h.ownS k j g e x ho, fun k' j' e' ho' => ?_⟩
  · rcases h2 with h2 | h2
    · exact Or.inr (Or.inl h2)
    · exact Or.inr (Or.inr h2)
  · obtain ⟨rfl, rfl⟩ := h.ownI _ _ _ _ _ _ _ ho ho'
    rw [ho] at ho'
    cases ho'
    exact hlt

/-- The operands, copied. -/
theorem Rel.opd (h : Rel X G s a w) : OpdR (fp X G) G.site w a.eval (fun x => (ev s x).dem2) := by
  intro x y hx
  cases x with
  | t n =>
    cases y <;> simp only [okX, Bool.false_eq_true] at hx
    rename_i m
    simp only [beq_iff_eq] at hx
    subst hx
    exact (h.tmp n).dem fun j g e he o ho => h.ownfp he ho
  | c cv =>
    have key : V2 (fp X G) G.site w (a.eval y) cv → V2 (fp X G) G.site w (a.eval y) cv.dem2 := fun hv => VR2.dem hv (fun _ _ _ he => by cases he)
    unfold okX at hx
    split at hx
    · rename_i hcv; cases hcv
    · rename_i f g hcv
      cases hcv
      simp only [beq_iff_eq] at hx
      subst hx
      exact key ⟨⟨rfl, rfl⟩, fun _ _ => rfl⟩
    · rename_i cv' u hcv
      cases hcv
      exact key (okC_sound hx)
    · cases hx

/-- The operands of what only computes. -/
theorem Rel.opdp (h : Rel X G s a w) : OpdR (fp X G) G.site w a.eval (evd s) := by
  intro x y hx
  cases x with
  | t n => exact h.opd _ _ hx
  | c cv =>
    unfold okX at hx
    split at hx
    · rename_i hcv; cases hcv
    · rename_i f g hcv
      cases hcv
      simp only [beq_iff_eq] at hx
      subst hx
      exact ⟨⟨rfl, rfl⟩, fun _ _ => rfl⟩
    · rename_i cv' u hcv
      cases hcv
      exact okC_sound hx
    · cases hx

/-- A new block, that nobody owns or knows yet. -/
theorem cell_alloc {b o : Nat} {v : Value} {ob : Obj} (h : w.cell? ⟨b, o, none⟩ = some v) : (w.alloc ob).cell? ⟨b, o, none⟩ = some v ∧ b < w.heap.size := by
  have hb : b < w.heap.size := by
    by_cases hb : b < w.heap.size
    · exact hb
    · simp only [World.cell?, Array.getElem?_eq_none (Nat.le_of_not_lt hb)] at h; simp at h
  refine ⟨?_, hb⟩
  rw [← h]
  exact World.cell?_of_block (Below.heap_alloc w ob b hb)

theorem Frame.alloc (h : Frame X w) (ob : Obj) (hok : ∀ b o, X.ok b o → b < X.w0.heap.size) : Frame X (w.alloc ob) := by
  refine ⟨h.os, h.tape, h.output, Nat.le_trans h.size (by simp), fun b hb hl => ?_, fun b o ho => ?_⟩
  · exact (Below.heap_alloc w ob b (Nat.lt_of_lt_of_le hb h.size)).trans (h.block b hb hl)
  · have hb := Nat.lt_of_lt_of_le (hok b o ho) h.size
    exact (World.cell?_of_block (a := ⟨b, o, none⟩) (Below.heap_alloc w ob b hb)).trans (h.cell b o ho)

/-- A new block: what was known stays known. New sites and new owners may lie in it. -/
theorem Rel.newBlock (h : Rel X G s a w) (ob : Obj) {G' : Gh} {s' : S} {a' : Act}
    (hs1 : ∀ x b, G.site x = some b → G'.site x = some b) (hs2 : ∀ x b, G'.site x = some b → G.site x = some b ∨ b = w.heap.size)
    (ho1 : ∀ k j b e, G'.own k j = some (b, e) → G.own k j = some (b, e) ∨ b = w.heap.size)
    (hI1 : ∀ x y, G'.site x = some w.heap.size → G'.site y = some w.heap.size → x = y)
    (hI2 : ∀ k j k' j' e e', G'.own k j = some (w.heap.size, e) → G'.own k' j' = some (w.heap.size, e') → k = k' ∧ j = j')
    (hI3 : ∀ k j e x, G'.own k j = some (w.heap.size, e) → G'.site x ≠ some w.heap.size)
    (ht : (∀ b o v, fp X G b o → w.cell? ⟨b, o, none⟩ = some v → fp X G' b o ∧ (w.alloc ob).cell? ⟨b, o, none⟩ = some v) → ∀ t, VR2 (fp X G') G'.site (w.alloc ob) (a'.tmps.getD t Go.undef) (s' (.t t)) (G'.own (.t t)))
    (hm : (∀ b o v, fp X G b o → w.cell? ⟨b, o, none⟩ = some v → fp X G' b o ∧ (w.alloc ob).cell? ⟨b, o, none⟩ = some v) → ∀ x, MR (fp X G') G'.site (w.alloc ob) (s' (.m x)) (G'.site x) (G'.own (.m x)))
    (hd : a'.defers = []) : Rel X G' s' a' (w.alloc ob) := by
  have hsz : X.w0.heap.size ≤ w.heap.size := h.fr.size
  have hsafe : ∀ b o, b < w.heap.size → G.safe b o → G'.safe b o := fun b o hb hs => ⟨fun x hx => by
      rcases hs2 x b hx with h1 | h1
      · exact hs.1 x h1
      · omega, fun k j e he => by
      rcases ho1 k j b e he with h1 | h1
      · exact hs.2 k j e h1
      · omega⟩
  have hfp : ∀ b o v, fp X G b o → w.cell? ⟨b, o, none⟩ = some v → fp X G' b o ∧ (w.alloc ob).cell? ⟨b, o, none⟩ = some v := fun b o v hf hc => by
    obtain ⟨h1, h2⟩ := cell_alloc (ob := ob) hc
    exact ⟨⟨hf.1, hsafe b o h2 hf.2⟩, h1⟩
  refine ⟨ht hfp, hm hfp, fun k j k' j' b e e' h1 h2 => ?_, fun k j b e x h1 h2 => ?_, fun x y b h1 h2 => ?_, fun x b h1 => ?_, fun k j b e h1 => ?_, fun b o ho => hsafe b o (Nat.lt_of_lt_of_le (h.okB b o ho) hsz) (h.okS b o ho), h.okB, h.fr.alloc ob h.okB, hd⟩
  · rcases ho1 k j b e h1 with g1 | g1
    · rcases ho1 k' j' b e' h2 with g2 | g2
      · exact h.ownI _ _ _ _ _ _ _ g1 g2
      · subst g2
        have := (h.ownF k j _ e g1).1
        omega
    · subst g1
      exact hI2 _ _ _ _ _ _ h1 h2
  · rcases ho1 k j b e h1 with g1 | g1
    · rcases hs2 x b h2 with g2 | g2
      · exact h.ownS _ _ _ _ _ g1 g2
      · subst g2
        have := (h.ownF k j _ e g1).1
        omega
    · subst g1
      exact hI3 _ _ _ _ h1 h2
  · rcases hs2 x b h1 with g1 | g1
    · rcases hs2 y b h2 with g2 | g2
      · exact h.siteI _ _ _ g1 g2
      · subst g2
        have := (h.siteF x _ g1).1
        omega
    · subst g1
      exact hI1 _ _ h1 h2
  · rcases hs2 x b h1 with g1 | g1
    · obtain ⟨q1, q2⟩ := h.siteF x b g1
      exact ⟨by simp; omega, q2⟩
    · subst g1
      exact ⟨by simp, Or.inl hsz⟩
  · rcases ho1 k j b e h1 with g1 | g1
    · obtain ⟨q1, q2⟩ := h.ownF k j b e g1
      exact ⟨by simp; omega, q2⟩
    · subst g1
      exact ⟨by simp, Or.inl hsz⟩

theorem own_heap (h : Rel X G s a w) (ob : Obj) {k : Key} {j g e : Nat} (ho : G.own k j = some (g, e)) : (w.alloc ob).heap[g]? = w.heap[g]? :=
  Below.heap_alloc w ob g (h.ownF k j g e ho).1

/-- A new variable. -/
theorem Rel.newSite (h : Rel X G s a w) {d : Nat} (hd : d < a.tmps.size) (hfree : G.site d = none) (hmd : s (.m d) = .undef) {cs : Array Value} {e : TypeId} {c : AV} (hc : V2 (fp X G) G.site w (.agg cs) c) (hagg : c.isAgg) :
    ∃ G', Rel X G' ((s.up (.m d) c).up (.t d) (.ptr d 0)) (a.put (some d) (.pointer (some ⟨w.heap.size, 0, none⟩))) (w.alloc (.cells cs e)) ∧ ∀ x, x ≠ d → G'.site x = G.site x := by
  refine ⟨⟨fun x => if x = d then some w.heap.size else G.site x, clr G.own (.t d)⟩, ?_, fun x hx => by simp [hx]⟩
  refine h.newBlock _ (fun x b hb => ?_) (fun x b hb => ?_) (fun k j b e' hb => ?_) (fun x y h1 h2 => ?_) (fun k j k' j' e' e'' h1 h2 => ?_) (fun k j e' x h1 => ?_) (fun hfp t => ?_) (fun hfp x => ?_) ((put_defers _ _ _).trans h.df)
  · have : x ≠ d := by rintro rfl; rw [hfree] at hb; cases hb
    simp [this, hb]
  · simp only at hb
    split at hb
    · cases hb; exact Or.inr rfl
    · exact Or.inl hb
  · simp only [clr] at hb
    split at hb
    · cases hb
    · exact Or.inl hb
  · simp only at h1 h2
    have key : ∀ z, (if z = d then some w.heap.size else G.site z) = some w.heap.size → z = d := fun z hz => by
      by_cases hzd : z = d
      · exact hzd
      · rw [if_neg hzd] at hz
        have := (h.siteF z _ hz).1
        omega
    rw [key x h1, key y h2]
  · simp only [clr] at h1
    split at h1
    · cases h1
    · have := (h.ownF _ _ _ _ h1).1
      omega
  · simp only [clr] at h1
    split at h1
    · cases h1
    · have := (h.ownF _ _ _ _ h1).1
      omega
  · have hs : ∀ x b, G.site x = some b → (fun x => if x = d then some w.heap.size else G.site x) x = some b := fun x b hb => by
      have : x ≠ d := by rintro rfl; rw [hfree] at hb; cases hb
      simp [this, hb]
    by_cases ht : t = d
    · subst ht
      rw [getD_put_same hd, S.up_same]
      exact ⟨⟨⟨w.heap.size, by simp, rfl⟩, by simp [clr]⟩, fun _ _ => by simp [clr]⟩
    · rw [getD_put_other ht, S.up_other _ _ (by simp [ht]), S.up_other _ _ (by simp)]
      have e1 : clr G.own (.t d) (.t t) = G.own (.t t) := by funext j; simp [clr, ht]
      simp only [e1]
      exact (h.tmp t).mono hfp hs fun j g e' he => own_heap h _ he
  · have hs : ∀ x b, G.site x = some b → (fun x => if x = d then some w.heap.size else G.site x) x = some b := fun x b hb => by
      have : x ≠ d := by rintro rfl; rw [hfree] at hb; cases hb
      simp [this, hb]
    rw [S.up_other _ _ (by simp)]
    have e1 : clr G.own (.t d) (.m x) = G.own (.m x) := by funext j; simp [clr]
    simp only [e1]
    by_cases hx : x = d
    · subst hx
      rw [S.up_same]
      have hown : G.own (.m x) = fun _ => none := by
        have := h.mem x
        rw [hmd] at this
        funext j
        exact this j
      rw [hown]
      have hv1 : VR1 (fp X ⟨fun y => if y = x then some w.heap.size else G.site y, clr G.own (.t x)⟩) (fun y => if y = x then some w.heap.size else G.site y) (w.alloc (.cells cs e)) (.agg cs) c (fun _ => none) := by
        have hc' : VR1 (fp X G) G.site w (.agg cs) c (fun _ => none) := by cases c <;> first | exact hc | exact hagg.elim
        exact hc'.mono hfp hs fun j g e' he => by cases he
      cases c <;> first | exact hagg.elim | exact ⟨w.heap.size, cs, e, by simp, heap_alloc_new w _, hv1, trivial⟩
    · rw [S.up_other _ _ (by simp [hx])]
      refine (h.mem x).mono hfp hs (fun b hb => ⟨by simp [hx, hb], Below.heap_alloc w _ b (h.siteF x b hb).1⟩) fun j g e' he => own_heap h _ he

/-- A new block that a slot owns. -/
theorem Rel.newOwn (h : Rel X G s a w) {d : Nat} (hd : d < a.tmps.size) {cs : Array Value} {e sz : Nat} {es : List (List PV)} (hc : PRs (fp X G) w cs.toList es.flatten) (hl : ∀ r ∈ es, r.length = sz) (hsz : 0 < sz) (hm : es.length ≤ maxLen) :
    ∃ G', Rel X G' (s.up (.t d) (.os e sz es)) (a.put (some d) (.slice (some ⟨w.heap.size, 0, none⟩) es.length es.length)) (w.alloc (.cells cs e)) ∧ ∀ x, G'.site x = G.site x := by
  have hcs : cs.size = es.length * sz := by
    have := hc.1
    rw [flat_len hl] at this
    simpa using this
  refine ⟨⟨G.site, fun k j => if k = .t d then (if j = 0 then some (w.heap.size, es.length * sz) else none) else G.own k j⟩, ?_, fun _ => rfl⟩
  refine h.newBlock _ (fun x b hb => hb) (fun x b hb => Or.inl hb) (fun k j b e' hb => ?_) (fun x y h1 h2 => ?_) (fun k j k' j' e' e'' h1 h2 => ?_) (fun k j e' x h1 hx => ?_) (fun hfp t => ?_) (fun hfp x => ?_) ((put_defers _ _ _).trans h.df)
  · simp only at hb
    split at hb
    · split at hb
      · cases hb; exact Or.inr rfl
      · cases hb
    · exact Or.inl hb
  · have := (h.siteF x _ h1).1
    omega
  · have key : ∀ k j e', (if k = Key.t d then (if j = 0 then some (w.heap.size, es.length * sz) else none) else G.own k j) = some (w.heap.size, e') → k = .t d ∧ j = 0 := fun k j e' hk => by
      split at hk
      · split at hk
        · exact ⟨by assumption, by assumption⟩
        · cases hk
      · have := (h.ownF _ _ _ _ hk).1
        omega
    obtain ⟨rfl, rfl⟩ := key _ _ _ h1
    obtain ⟨rfl, rfl⟩ := key _ _ _ h2
    exact ⟨rfl, rfl⟩
  · have := (h.siteF x _ hx).1
    omega
  · by_cases ht : t = d
    · subst ht
      rw [getD_put_same hd, S.up_same]
      refine ⟨⟨cs.toList, ⟨by simp [hcs], Or.inr ⟨w.heap.size, es.length, cs, rfl, Nat.zero_le _, heap_alloc_new w _, Nat.le_refl _, hm, hcs, by rw [← hcs, ← Array.length_toList, List.take_length]⟩⟩, hc.mono hfp, hl, hsz, Or.inr ⟨_, _, _, rfl, by simp⟩⟩, fun j hj => ?_⟩
      simp [show j ≠ 0 by omega]
    · rw [getD_put_other ht, S.up_other _ _ (by simp [ht])]
      have e1 : (fun j => if Key.t t = Key.t d then (if j = 0 then some (w.heap.size, es.length * sz) else none) else G.own (.t t) j) = G.own (.t t) := by funext j; simp [ht]
      simp only [e1]
      exact (h.tmp t).mono hfp (fun _ _ h => h) fun j g e' he => own_heap h _ he
  · rw [S.up_other _ _ (by simp)]
    have e1 : (fun j => if Key.m x = Key.t d then (if j = 0 then some (w.heap.size, es.length * sz) else none) else G.own (.m x) j) = G.own (.m x) := by funext j; simp
    simp only [e1]
    exact (h.mem x).mono hfp (fun _ _ h => h) (fun b hb => ⟨hb, Below.heap_alloc w _ b (h.siteF x b hb).1⟩) fun j g e' he => own_heap h _ he
end
end Go.Abs
end

section
/- What the abstract machine's memory operations do to what is known: moves, stores into variables, appends. No condition. -/
namespace Go.Abs
open Go.RowKit

section
variable {X : Ctx} {G : Gh} {s : S} {a : Act} {w : World}

def mvOwn (own : Key → Nat → Option (Nat × Nat)) (n d : Key) : Key → Nat → Option (Nat × Nat) := fun k j => if k = d then own n j else if k = n then none else own k j

/-- A slot's value moves to another slot. -/
theorem Rel.move (h : Rel X G s a w) {n d : Nat} (hd : d < a.tmps.size) (hn : n ≠ d) :
    ∃ G', Rel X G' ((s.up (.t n) (s (.t n)).dem2).up (.t d) (s (.t n))) (a.put (some d) (a.tmps.getD n Go.undef)) w ∧ ∀ x, G'.site x = G.site x := by
  refine ⟨{ G with own := mvOwn G.own (.t n) (.t d) }, h.same _ (fun k j be hb => ?_) (fun k j k' j' b e e' h1 h2 => ?_) (fun t => ?_) (fun x => ?_) ((put_defers _ _ _).trans h.df), fun _ => rfl⟩
  · unfold mvOwn at hb
    split at hb
    · exact ⟨_, _, hb⟩
    · split at hb
      · cases hb
      · exact ⟨_, _, hb⟩
  · unfold mvOwn at h1 h2
    split at h1 <;> split at h2
    · rename_i q1 q2
      obtain ⟨_, e⟩ := h.ownI _ _ _ _ _ _ _ h1 h2
      exact ⟨q1.trans q2.symm, e⟩
    · split at h2
      · cases h2
      · rename_i q1 q2 q3
        obtain ⟨e, _⟩ := h.ownI _ _ _ _ _ _ _ h1 h2
        exact absurd e.symm q3
    · split at h1
      · cases h1
      · rename_i q1 q2 q3
        obtain ⟨e, _⟩ := h.ownI _ _ _ _ _ _ _ h1 h2
        exact absurd e q3
    · split at h1
      · cases h1
      · split at h2
        · cases h2
        · exact h.ownI _ _ _ _ _ _ _ h1 h2
  · by_cases ht : t = d
    · subst ht
      rw [getD_put_same hd, S.up_same]
      have e1 : mvOwn G.own (.t n) (.t t) (.t t) = G.own (.t n) := by funext j; simp [mvOwn]
      rw [e1]
      exact h.tmp n
    · rw [getD_put_other ht, S.up_other _ _ (by simp [ht])]
      by_cases htn : t = n
      · subst htn
        rw [S.up_same]
        have e1 : mvOwn G.own (.t t) (.t d) (.t t) = fun _ => none := by funext j; simp [mvOwn, ht]
        rw [e1]
        exact (h.tmp t).dem fun j g e he o ho => h.ownfp he ho
      · rw [S.up_other _ _ (by simp [htn])]
        have e1 : mvOwn G.own (.t n) (.t d) (.t t) = G.own (.t t) := by funext j; simp [mvOwn, ht, htn]
        rw [e1]
        exact h.tmp t
  · rw [S.up_other _ _ (by simp), S.up_other _ _ (by simp)]
    have e1 : mvOwn G.own (.t n) (.t d) (.m x) = G.own (.m x) := by funext j; simp [mvOwn]
    rw [e1]
    exact h.mem x

theorem Rel.drew (h : Rel X G s a w) : Rel X G s a w.drew :=
  ⟨fun t => VR2.mono (w := w) (w' := w.drew) (fp' := fp X G) (site' := G.site) (fun _ _ _ hf hc => ⟨hf, hc⟩) (fun _ _ h => h) (fun _ _ _ _ => rfl) (h.tmp t), fun x => MR.mono (w := w) (w' := w.drew) (fp' := fp X G) (site' := G.site) (fun _ _ _ hf hc => ⟨hf, hc⟩) (fun _ _ h => h) (fun b hb => ⟨hb, rfl⟩) (fun _ _ _ _ => rfl) (h.mem x),
    h.ownI, h.ownS, h.siteI, h.siteF, h.ownF, h.okS, h.okB, ⟨h.fr.os, h.fr.tape, h.fr.output, h.fr.size, h.fr.block, h.fr.cell⟩, h.df⟩

theorem Rel.siteSafe (h : Rel X G s a w) {b o y : Nat} (hs : G.safe b o) : G.site y ≠ some b := hs.1 y

/-- A variable's cells turn; what is owned may have moved. -/
theorem Rel.setSite (h : Rel X G s a w) {y b : Nat} (hy : G.site y = some b) {cs cs' : Array Value} {e : TypeId} (hb : w.heap[b]? = some (.cells cs e (0, 0)))
    (own' : Key → Nat → Option (Nat × Nat)) {s' : S} {a' : Act}
    (h1 : ∀ k j be, own' k j = some be → ∃ k0 j0, G.own k0 j0 = some be)
    (h2 : ∀ k j k' j' b e e', own' k j = some (b, e) → own' k' j' = some (b, e') → k = k' ∧ j = j')
    (ht : ∀ t, VR2 (fp X G) G.site w (a'.tmps.getD t Go.undef) (s' (.t t)) (own' (.t t)))
    (hm : ∀ x, x ≠ y → MR (fp X G) G.site w (s' (.m x)) (G.site x) (own' (.m x)))
    (hc : VR1 (fp X G) G.site w (.agg cs') (s' (.m y)) (own' (.m y))) (hagg : (s' (.m y)).isAgg)
    (hd : a'.defers = []) : Rel X { G with own := own' } s' a' (w.setRow b cs') := by
  obtain ⟨hblt, hbF⟩ := h.siteF y b hy
  have hsafe : ∀ b o, G.safe b o → Gh.safe { G with own := own' } b o := fun b o hs => ⟨hs.1, fun k j e he => by
    obtain ⟨k0, j0, h0⟩ := h1 k j _ he
    exact hs.2 k0 j0 e h0⟩
  have hoth : ∀ b', b' ≠ b → (w.setRow b cs').heap[b']? = w.heap[b']? := fun b' hne => setRow_other w b b' cs' hne
  have hfp : ∀ b' o v, fp X G b' o → w.cell? ⟨b', o, none⟩ = some v → fp X { G with own := own' } b' o ∧ (w.setRow b cs').cell? ⟨b', o, none⟩ = some v := fun b' o v hf hc => by
    have hne : b' ≠ b := by rintro rfl; exact hf.2.1 y hy
    exact ⟨⟨hf.1, hsafe b' o hf.2⟩, (World.cell?_of_block (a := ⟨b', o, none⟩) (hoth b' hne)).trans hc⟩
  have hsize : (w.setRow b cs').heap.size = w.heap.size := by simp [World.setRow]
  have hown : ∀ k j g e, own' k j = some (g, e) → (w.setRow b cs').heap[g]? = w.heap[g]? := fun k j g e he => by
    obtain ⟨k0, j0, h0⟩ := h1 k j _ he
    exact hoth g (by rintro rfl; exact h.ownS _ _ _ _ y h0 hy)
  refine ⟨fun t => (ht t).mono hfp (fun _ _ h => h) (hown (.t t)), fun x => ?_, h2, fun k j b e x he => ?_, h.siteI, fun x b' hx => ?_, fun k j b e he => ?_, fun b o ho => hsafe b o (h.okS b o ho), h.okB, ?_, hd⟩
  · by_cases hx : x = y
    · subst hx
      have hc' := hc.mono hfp (fun _ _ h => h) (hown (.m x))
      generalize s' (.m x) = c at hc' hagg
      cases c <;> first | exact hagg.elim | exact ⟨b, cs', e, hy, setRow_heap w b cs cs' e _ hb, hc', trivial⟩
    · refine (hm x hx).mono hfp (fun _ _ h => h) (fun b' hb' => ⟨hb', hoth b' ?_⟩) (hown (.m x))
      rintro rfl
      exact hx (h.siteI _ _ _ hb' hy)
  · obtain ⟨k0, j0, h0⟩ := h1 k j _ he
    exact h.ownS k0 j0 b e x h0
  · obtain ⟨q1, q2⟩ := h.siteF x b' hx
    exact ⟨by rw [hsize]; exact q1, q2⟩
  · obtain ⟨k0, j0, h0⟩ := h1 k j _ he
    obtain ⟨q1, q2⟩ := h.ownF k0 j0 b e h0
    exact ⟨by rw [hsize]; exact q1, q2⟩
  · refine ⟨h.fr.os, h.fr.tape, h.fr.output, by rw [hsize]; exact h.fr.size, fun b' hb' hl => ?_, fun b' o ho => ?_⟩
    · have hne : b' ≠ b := by
        rintro rfl
        rcases hbF with q | q
        · omega
        · exact hl q.1
      exact (hoth b' hne).trans (h.fr.block b' hb' hl)
    · have hne : b' ≠ b := by rintro rfl; exact (h.okS b' o ho).1 y hy
      exact (World.cell?_of_block (a := ⟨b', o, none⟩) (hoth b' hne)).trans (h.fr.cell b' o ho)

/-- append(v, ..) of what lies at A: how the world turns. -/
theorem run_app {P : Program} {t ty e : TypeId} {i : TypeInfo} {z : Value} {size bytes : Nat} (ht : P.underlying t = some (.slice e)) (hi : P.info? e = some i) (hz : i.zero = some z)
    (hsize : i.size = size) (hby : i.bytes = bytes) (hzs : z.cells.size = size) (hsz : 0 < size)
    {v : Value} {n : Nat} {xs : List Value} (hown : w.ownsRow 0 e size v n xs)
    {A : Option Addr} {m c : Nat} {news : List Value} (hl : news.length = m * size) (hnews : 0 < m → ∃ ad, A = some ad ∧ ∀ (j : Nat) u, news[j]? = some u → w.cell? (ad.add j) = some u) (h1 : ∀ u ∈ news, u.oneCell' = true)
    (h63 : n + m ≤ maxLen) (hbytes : (n + m) * bytes ≤ 140737488355328) :
    ∃ v' w', (Builtin.append_ #[t, t] ty #[v, .slice A m c]).run P w = .ok v' w' ∧ w'.ownsRow 0 e size v' (n + m) (xs ++ news) ∧
      ((m = 0 ∧ v' = v ∧ w' = w) ∨ (∃ g cur cur', v.ownBlock = some g ∧ v'.ownBlock = some g ∧ w.heap[g]? = some (.cells cur e (0, 0)) ∧ w' = w.setRow g cur') ∨ (∃ cs, v'.ownBlock = some w.heap.size ∧ w' = w.drew.alloc (.cells cs e))) := by
  subst hsize
  subst hby
  by_cases hm : m = 0
  · subst hm
    have hn : news = [] := List.eq_nil_of_length_eq_zero (by simpa using hl)
    subst hn
    refine ⟨v, w, ?_, by simpa using hown, Or.inl ⟨rfl, rfl, rfl⟩⟩
    rcases hown.2 with ⟨rfl, hn⟩ | ⟨g, cap, cur, rfl, _, _, hnc, _⟩
    · subst hn
      cases A <;> simp [Builtin.append_, run_underlying ht, sizeOf, typeInfo, hi, Builtin.lenOf, Builtin.firstCells, loadCells, loadCellsFrom]
    · cases A <;> simp [Builtin.append_, run_underlying ht, sizeOf, typeInfo, hi, Builtin.lenOf, Builtin.firstCells, hnc, storeCells, loadCells, loadCellsFrom]
  obtain ⟨ad, rfl, hnews'⟩ := hnews (by omega)
  clear hnews
  have hnews := hnews'
  have hsmall : n + m ≤ 9223372036854775807 := by simp only [maxLen] at h63; omega
  have hlen : (xs ++ news).length = (n + m) * i.size := by rw [List.length_append, hown.1, hl, Nat.add_mul]
  have grown : ∀ (old : Nat), old < n + m →
      (w.drew.alloc (.cells (xs.toArray ++ news.toArray ++ Builtin.zeroCells z.cells (grownCap w (n + m) old e - (n + m))) e)).ownsRow 0 e i.size
        (.slice (some ⟨w.heap.size, 0, none⟩) (n + m) (grownCap w (n + m) old e)) (n + m) (xs ++ news) := by
    intro old ho
    have hge := grownCap_ge w (n + m) old e
    have hcm : grownCap w (n + m) old e ≤ maxLen := grownCap_le_maxLen w (n + m) old e h63
    refine ⟨hlen, .inr ⟨w.heap.size, _, _, rfl, Nat.zero_le _, heap_alloc_new w.drew _, hge, hcm, ?_, ?_⟩⟩
    · simp only [Array.size_append, List.size_toArray, size_zeroCells, hzs, hown.1, hl, ← Nat.add_mul]
      congr 1
      omega
    · simp only [Array.toList_append, List.append_assoc]
      rw [← List.append_assoc, ← hlen]
      exact List.take_left
  rcases hown.2 with ⟨rfl, rfl⟩ | ⟨g, cap, cur, rfl, hbg, hg, hnc, hcm, hcs, htake⟩
  · have hx : xs = [] := List.eq_nil_of_length_eq_zero (by simpa using hown.1)
    subst hx
    have hr := run_append_nil (P := P) w t ty e i z ht hi hz ad m c news hl hnews (by omega) (by omega) (by have hb := hbytes; simp only [Nat.zero_add] at hb; omega)
    have hgr := grown 0 (by omega)
    simp only [Nat.zero_add, List.nil_append, Array.empty_append] at hgr ⊢
    exact ⟨_, _, hr, hgr, Or.inr (Or.inr ⟨_, rfl, rfl⟩)⟩
  · by_cases hroom : n + m ≤ cap
    · have hfit : n * i.size + news.length ≤ cur.size := by rw [hl, hcs, ← Nat.add_mul]; exact Nat.mul_le_mul_right _ hroom
      have hr := run_append_room (P := P) w t ty e i ht hi g n cap cur hg ad m c news hl hnews h1 hroom hfit
      refine ⟨_, _, hr, ⟨hlen, .inr ⟨g, cap, _, rfl, hbg, setRow_heap w g cur _ e _ hg, hroom, hcm, ?_, ?_⟩⟩, Or.inr (Or.inl ⟨g, cur, _, rfl, rfl, hg, rfl⟩)⟩
      · simp only [List.size_toArray, List.length_append, List.length_take, List.length_drop, Array.length_toList]
        omega
      · rw [htake, ← hlen]
        exact List.take_left
    · have holds : ∀ (j : Nat) u, xs[j]? = some u → w.cell? ((⟨g, 0, none⟩ : Addr).add j) = some u := hown.cells (g := g) rfl
      have hr := run_append_grow (P := P) w t ty e i z ht hi hz ⟨g, 0, none⟩ n cap xs hown.1 holds ad m c news hl hnews (by omega) (by omega) (growslice_fits (by omega) hbytes)
      have hgr := grown cap (by omega)
      exact ⟨_, _, hr, hgr, Or.inr (Or.inr ⟨_, rfl, rfl⟩)⟩

def appOwn (own : Key → Nat → Option (Nat × Nat)) (n d : Nat) (be : Nat × Nat) : Key → Nat → Option (Nat × Nat) := fun k j => if k = .t d then (if j = 0 then some be else none) else if k = .t n then none else own k j

theorem ownBlock_form {w : World} {e sz n : Nat} {v : Value} {xs : List Value} (h : w.ownsRow 0 e sz v n xs) {g : Nat} (hg : v.ownBlock = some g) : ∃ cap cur, v = .slice (some ⟨g, 0, none⟩) n cap ∧ w.heap[g]? = some (.cells cur e (0, 0)) ∧ n ≤ cap ∧ cap ≤ maxLen ∧ cur.size = cap * sz ∧ cur.toList.take (n * sz) = xs := by
  rcases h.2 with ⟨rfl, _⟩ | ⟨g', cap, cur, rfl, _, r⟩
  · cases hg
  · cases hg; exact ⟨cap, cur, rfl, r⟩

/-- An append: the slot n is what it appends to, the slot d gets what comes of it. -/
theorem Rel.app (h : Rel X G s a w) {n d : Nat} (hd : d < a.tmps.size) (hn : n ≠ d) {e sz : Nat} {es rows : List (List PV)} (hs : s (.t n) = .os e sz es)
    {v' : Value} {w' : World} {xs news : List Value} (hx : PRs (fp X G) w xs es.flatten) (hnews : PRs (fp X G) w news rows.flatten) (hrl : ∀ r ∈ rows, r.length = sz)
    (hown : w.ownsRow 0 e sz (a.tmps.getD n Go.undef) es.length xs)
    (hown' : w'.ownsRow 0 e sz v' (es.length + rows.length) (xs ++ news))
    (hcase : (rows.length = 0 ∧ v' = a.tmps.getD n Go.undef ∧ w' = w) ∨ (∃ g cur cur', (a.tmps.getD n Go.undef).ownBlock = some g ∧ v'.ownBlock = some g ∧ w.heap[g]? = some (.cells cur e (0, 0)) ∧ w' = w.setRow g cur') ∨ (∃ cs, v'.ownBlock = some w.heap.size ∧ w' = w.drew.alloc (.cells cs e))) :
    ∃ G', Rel X G' ((s.up (.t n) (s (.t n)).dem2).up (.t d) (.os e sz (es ++ rows))) (a.put (some d) v') w' ∧ ∀ x, G'.site x = G.site x := by
  have htn := h.tmp n
  rw [hs] at htn
  obtain ⟨⟨xs0, q1, q2, q3, q4, q5⟩, q6⟩ := htn
  rcases hcase with ⟨h0, rfl, rfl⟩ | ⟨g, cur, cur', hg, hg', hcur, rfl⟩ | ⟨cs, hg', rfl⟩
  · have : rows = [] := List.eq_nil_of_length_eq_zero h0
    subst this
    rw [List.append_nil]
    have := h.move hd hn
    rw [hs] at this
    rwa [hs]
  · -- in place
    obtain ⟨cap, cur0, hv, hc0, hnc, hcm, hcs, htake⟩ := ownBlock_form hown hg
    rw [hcur] at hc0
    cases hc0
    obtain ⟨cap', cur1, hv', hc1, hnc', hcm', hcs', htake'⟩ := ownBlock_form hown' hg'
    rw [setRow_heap w g cur cur' e _ hcur] at hc1
    cases hc1
    have how : G.own (.t n) 0 = some (g, es.length * sz) := by
      rcases q5 with ⟨e1, _⟩ | ⟨g1, n1, c1, e1, e2⟩
      · rw [hv] at e1; cases e1
      · rw [hv] at e1; cases e1; exact e2
    have hflen : xs.length = es.length * sz := by rw [hown.1]
    have hoth : ∀ b', b' ≠ g → (w.setRow g cur').heap[b']? = w.heap[b']? := fun b' hne => setRow_other w g b' cur' hne
    have hcellg : ∀ o v, o < es.length * sz → w.cell? ⟨g, o, none⟩ = some v → (w.setRow g cur').cell? ⟨g, o, none⟩ = some v := fun o v ho hc => by
      rw [cell_of_heap hcur] at hc
      rw [cell_of_heap (setRow_heap w g cur cur' e _ hcur)]
      have e1 : xs[o]? = some v := by rw [← htake, List.getElem?_take, if_pos ho]; simpa using hc
      have e2 : (xs ++ news)[o]? = some v := by rw [List.getElem?_append_left (by omega)]; exact e1
      rw [← htake', List.getElem?_take] at e2
      split at e2
      · simpa using e2
      · cases e2
    have hsafe : ∀ b o, G.safe b o → Gh.safe ⟨G.site, appOwn G.own n d (g, (es.length + rows.length) * sz)⟩ b o := fun b o hsf => ⟨hsf.1, fun k j e' he => by
      simp only [appOwn] at he
      split at he
      · split at he
        · cases he
          have := hsf.2 _ _ _ how
          rw [Nat.add_mul]
          omega
        · cases he
      · split at he
        · cases he
        · exact hsf.2 k j e' he⟩
    have hfp : ∀ b' o v, fp X G b' o → w.cell? ⟨b', o, none⟩ = some v → fp X ⟨G.site, appOwn G.own n d (g, (es.length + rows.length) * sz)⟩ b' o ∧ (w.setRow g cur').cell? ⟨b', o, none⟩ = some v := fun b' o v hf hc => by
      refine ⟨⟨hf.1, hsafe b' o hf.2⟩, ?_⟩
      by_cases hb : b' = g
      · subst hb
        exact hcellg o v (hf.2.2 _ _ _ how) hc
      · exact (World.cell?_of_block (a := ⟨b', o, none⟩) (hoth b' hb)).trans hc
    have hsize : (w.setRow g cur').heap.size = w.heap.size := by simp [World.setRow]
    have hsites : ∀ x b, G.site x = some b → (w.setRow g cur').heap[b]? = w.heap[b]? := fun x b hx => hoth b (by rintro rfl; exact h.ownS _ _ _ _ x how hx)
    have hownO : ∀ k j g1 e1, k ≠ .t n → G.own k j = some (g1, e1) → (w.setRow g cur').heap[g1]? = w.heap[g1]? := fun k j g1 e1 hk he => hoth g1 (by
      rintro rfl
      exact hk (h.ownI _ _ _ _ _ _ _ he how).1)
    refine ⟨⟨G.site, appOwn G.own n d (g, (es.length + rows.length) * sz)⟩, ⟨fun t => ?_, fun x => ?_, fun k j k' j' b e1 e2 g1 g2 => ?_, fun k j b e1 x g1 => ?_, h.siteI, fun x b hx => ?_, fun k j b e1 g1 => ?_, fun b o ho => hsafe b o (h.okS b o ho), h.okB, ?_, (put_defers _ _ _).trans h.df⟩, fun _ => rfl⟩
    · by_cases ht : t = d
      · subst ht
        rw [getD_put_same hd, S.up_same]
        refine ⟨⟨xs ++ news, by simpa using hown', ?_, ?_, q4, Or.inr ⟨g, _, cap', hv', by simp [appOwn]⟩⟩, fun j hj => ?_⟩
        · rw [List.flatten_append]
          exact (hx.mono hfp).append (hnews.mono hfp)
        · intro r hr
          rcases List.mem_append.1 hr with hr | hr
          · exact q3 r hr
          · exact hrl r hr
        · simp [appOwn, show j ≠ 0 by omega]
      · rw [getD_put_other ht, S.up_other _ _ (by simp [ht])]
        by_cases htn : t = n
        · subst htn
          rw [S.up_same]
          have e1 : appOwn G.own t d (g, (es.length + rows.length) * sz) (.t t) = fun _ => none := by funext j; simp [appOwn, ht]
          simp only [e1]
          refine VR2.mono hfp (fun _ _ h => h) (fun _ _ _ he => by cases he) ((h.tmp t).dem fun j g e he o ho => h.ownfp he ho)
        · rw [S.up_other _ _ (by simp [htn])]
          have e1 : appOwn G.own n d (g, (es.length + rows.length) * sz) (.t t) = G.own (.t t) := by funext j; simp [appOwn, ht, htn]
          simp only [e1]
          exact (h.tmp t).mono hfp (fun _ _ h => h) fun j g1 e1 he => hownO _ j g1 e1 (by simp [htn]) he
    · rw [S.up_other _ _ (by simp), S.up_other _ _ (by simp)]
      have e1 : appOwn G.own n d (g, (es.length + rows.length) * sz) (.m x) = G.own (.m x) := by funext j; simp [appOwn]
      simp only [e1]
      exact (h.mem x).mono hfp (fun _ _ h => h) (fun b hb => ⟨hb, hsites x b hb⟩) fun j g1 e1 he => hownO _ j g1 e1 (by simp) he
    · simp only [appOwn] at g1 g2
      have key : ∀ k j e1, (if k = Key.t d then (if j = 0 then some (g, (es.length + rows.length) * sz) else none) else if k = Key.t n then none else G.own k j) = some (b, e1) → (k = .t d ∧ j = 0 ∧ b = g) ∨ (k ≠ .t d ∧ k ≠ .t n ∧ G.own k j = some (b, e1)) := fun k j e1 hk => by
        split at hk
        · split at hk
          · cases hk; exact Or.inl ⟨by assumption, by assumption, rfl⟩
          · cases hk
        · split at hk
          · cases hk
          · exact Or.inr ⟨by assumption, by assumption, hk⟩
      rcases key _ _ _ g1 with ⟨r1, r2, r3⟩ | ⟨r1, r2, r3⟩ <;> rcases key _ _ _ g2 with ⟨p1, p2, p3⟩ | ⟨p1, p2, p3⟩
      · exact ⟨r1.trans p1.symm, r2.trans p2.symm⟩
      · subst r3; exact absurd (h.ownI _ _ _ _ _ _ _ p3 how).1 p2
      · subst p3; exact absurd (h.ownI _ _ _ _ _ _ _ r3 how).1 r2
      · exact h.ownI _ _ _ _ _ _ _ r3 p3
    · simp only [appOwn] at g1
      split at g1
      · split at g1
        · cases g1; exact h.ownS _ _ _ _ x how
        · cases g1
      · split at g1
        · cases g1
        · exact h.ownS _ _ _ _ x g1
    · obtain ⟨r1, r2⟩ := h.siteF x b hx
      exact ⟨by rw [hsize]; exact r1, r2⟩
    · simp only [appOwn] at g1
      rw [hsize]
      split at g1
      · split at g1
        · cases g1; exact h.ownF _ _ _ _ how
        · cases g1
      · split at g1
        · cases g1
        · exact h.ownF _ _ _ _ g1
    · obtain ⟨_, hgF⟩ := h.ownF _ _ _ _ how
      refine ⟨h.fr.os, h.fr.tape, h.fr.output, by rw [hsize]; exact h.fr.size, fun b' hb' hl => ?_, fun b' o ho => ?_⟩
      · have hne : b' ≠ g := by
          rintro rfl
          rcases hgF with q | q
          · omega
          · exact hl q
        exact (hoth b' hne).trans (h.fr.block b' hb' hl)
      · rw [← h.fr.cell b' o ho]
        by_cases hb : b' = g
        · subst hb
          have ho' := (h.okS b' o ho).2 _ _ _ how
          have hlt : o < cur.size := by
            rw [hcs]
            exact Nat.lt_of_lt_of_le ho' (Nat.mul_le_mul_right _ hnc)
          have hc := cell_of_heap hcur o
          rw [Array.getElem?_eq_getElem hlt] at hc
          rw [hc]
          exact hcellg o _ ho' hc
        · exact World.cell?_of_block (a := ⟨b', o, none⟩) (hoth b' hb)
  · -- in a new block
    obtain ⟨cap', cur1, hv', hc1, hnc', hcm', hcs', htake'⟩ := ownBlock_form hown' hg'
    have hmono0 : ∀ b o v, fp X G b o → w.cell? ⟨b, o, none⟩ = some v → fp X G b o ∧ w.drew.cell? ⟨b, o, none⟩ = some v := fun _ _ _ hf hc => ⟨hf, hc⟩
    refine ⟨⟨G.site, appOwn G.own n d (w.heap.size, (es.length + rows.length) * sz)⟩, h.drew.newBlock _ (fun x b hb => hb) (fun x b hb => Or.inl hb) (fun k j b e' hb => ?_) (fun x y h1 h2 => ?_) (fun k j k' j' e' e'' h1 h2 => ?_) (fun k j e' x h1 hx => ?_) (fun hfp t => ?_) (fun hfp x => ?_) ((put_defers _ _ _).trans h.df), fun _ => rfl⟩
    · simp only [appOwn] at hb
      split at hb
      · split at hb
        · cases hb; exact Or.inr rfl
        · cases hb
      · split at hb
        · cases hb
        · exact Or.inl hb
    · have := (h.siteF x _ h1).1
      exact absurd this (Nat.lt_irrefl _)
    · have key : ∀ k j e', appOwn G.own n d (w.heap.size, (es.length + rows.length) * sz) k j = some (w.heap.size, e') → k = .t d ∧ j = 0 := fun k j e' hk => by
        simp only [appOwn] at hk
        split at hk
        · split at hk
          · exact ⟨by assumption, by assumption⟩
          · cases hk
        · split at hk
          · cases hk
          · have := (h.ownF _ _ _ _ hk).1
            exact absurd this (Nat.lt_irrefl _)
      obtain ⟨rfl, rfl⟩ := key _ _ _ h1
      obtain ⟨rfl, rfl⟩ := key _ _ _ h2
      exact ⟨rfl, rfl⟩
    · have := (h.siteF x _ hx).1
      exact absurd this (Nat.lt_irrefl _)
    · by_cases ht : t = d
      · subst ht
        rw [getD_put_same hd, S.up_same]
        refine ⟨⟨xs ++ news, by simpa using hown', ?_, ?_, q4, Or.inr ⟨_, _, cap', hv', by simp [appOwn]⟩⟩, fun j hj => ?_⟩
        · rw [List.flatten_append]
          exact ((hx.mono hmono0).mono hfp).append ((hnews.mono hmono0).mono hfp)
        · intro r hr
          rcases List.mem_append.1 hr with hr | hr
          · exact q3 r hr
          · exact hrl r hr
        · simp [appOwn, show j ≠ 0 by omega]
      · rw [getD_put_other ht, S.up_other _ _ (by simp [ht])]
        by_cases htn : t = n
        · subst htn
          rw [S.up_same]
          have e1 : appOwn G.own t d (w.heap.size, (es.length + rows.length) * sz) (.t t) = fun _ => none := by funext j; simp [appOwn, ht]
          simp only [e1]
          refine VR2.mono hfp (fun _ _ h => h) (fun _ _ _ he => by cases he) ((h.drew.tmp t).dem fun j g e he o ho => h.drew.ownfp he ho)
        · rw [S.up_other _ _ (by simp [htn])]
          have e1 : appOwn G.own n d (w.heap.size, (es.length + rows.length) * sz) (.t t) = G.own (.t t) := by funext j; simp [appOwn, ht, htn]
          simp only [e1]
          exact (h.drew.tmp t).mono hfp (fun _ _ h => h) fun j g1 e1 he => own_heap h.drew _ he
    · rw [S.up_other _ _ (by simp), S.up_other _ _ (by simp)]
      have e1 : appOwn G.own n d (w.heap.size, (es.length + rows.length) * sz) (.m x) = G.own (.m x) := by funext j; simp [appOwn]
      simp only [e1]
      exact (h.drew.mem x).mono hfp (fun _ _ h => h) (fun b hb => ⟨hb, Below.heap_alloc w.drew _ b (h.siteF x b hb).1⟩) fun j g1 e1 he => own_heap h.drew _ he
end
end Go.Abs
end

section
/- The abstract machine's operations on memory: what they are. No condition. -/
namespace Go.Abs
open Go.RowKit

/-- The one table that a program may read: where it lies in the first place of all package-level variables. -/
def deBruijn : List Nat := [0, 1, 28, 2, 29, 14, 24, 3, 30, 22, 20, 15, 25, 17, 4, 8, 31, 27, 13, 23, 21, 19, 16, 7, 26, 12, 18, 6, 11, 5, 10, 9]
def gtOf (P : Program) : List Nat := if P.globalNamed "math/bits.deBruijn32tab" = some 0 then deBruijn else []
/-- What a call may read of it. -/
def GlOK (P : Program) (X : Ctx) : Prop := ∀ (j n : Nat), (gtOf P)[j]? = some n → X.ok 0 j ∧ X.w0.cell? ⟨0, j, none⟩ = some (.int .u8 (n : Int))
inductive IOp where
  | p (d : Nat) (o : POp) (xs : List Opd)
  | mv (d n : Nat)
  | alloc (d : Nat) (z : AV)
  | box (d : Nat) (x : Opd)
  | build (d : Nat) (z : AV) (ps : List (Nat × Nat × Opd))
  | bslice (d e sz n : Nat) (z : List PV) (ps : List (Nat × Opd))
  | mks (d : Nat) (z : List PV) (x : Opd)
  | load (d : Nat) (n : Option (Nat × Bool)) (st : Option Nat) (x : Opd)
  | loadmv (d : Nat) (st : Option Nat) (x : Opd)
  | store (n : Option (Nat × Bool)) (st : Option Nat) (x v : Opd)
  | storemv (st : Option Nat) (x : Opd) (n : Nat)
  | storemva (k : Nat) (st : Option Nat) (x : Opd) (n : Nat)
  | app (d e sz n : Nat) (st : Option Nat) (x : Opd)
  | fzb (d n : Nat)
  | rbox (d : Nat) (x : Opd)
  | gidx (d : Nat) (tab : List Nat) (x : Opd)
  | copy (d v : Nat) (st : Option Nat) (x y : Opd)
  | call (d f : Nat) (xs : List Opd) (lent news frz : List Nat)
  | callv (d t f : Nat) (xs : List Opd)

def AV.storable : AV → Bool
  | .pv _ => true
  | .os _ _ _ => true
  | .ptr _ _ => true
  | .rp _ => true
  | .sr _ _ _ _ => true
  | .fn _ => true
  | _ => false

/-- An aggregate, some of its cells replaced. -/
def putA : AV → Nat → AV → Option (Prop × AV)
  | .pagg l, o, .pv p => some (o < l.length, .pagg (l.set o p))
  | .pagg l, o, .pagg lv => some (o + lv.length ≤ l.length, .pagg (l.take o ++ lv ++ l.drop (o + lv.length)))
  | .pagg l, o, .agg lv => some (o + lv.length ≤ l.length ∧ lv.all AV.storable = true, .agg ((l.take o).map AV.pv ++ lv ++ (l.drop (o + lv.length)).map AV.pv))
  | .pagg l, o, v => if v.storable then some (o < l.length, .agg ((l.map AV.pv).set o v)) else none
  | .agg l, o, .pagg lv => some (o + lv.length ≤ l.length, .agg (l.take o ++ lv.map AV.pv ++ l.drop (o + lv.length)))
  | .agg l, o, .agg lv => some (o + lv.length ≤ l.length ∧ lv.all AV.storable = true, .agg (l.take o ++ lv ++ l.drop (o + lv.length)))
  | .agg l, o, v => if v.storable then some (o < l.length, .agg (l.set o v)) else none
  | _, _, _ => none

def toCells : AV → Option AV
  | .pagg l => some (.pagg l)
  | .agg l => some (.agg l)
  | .pv p => some (.pagg [p])
  | v => if v.storable then some (.agg [v]) else none

def avSize : AV → Nat
  | .pagg l => l.length
  | .agg l => l.length
  | _ => 1
def fillA (s : S) : AV → List (Nat × Nat × Opd) → Option (Prop × AV)
  | z, [] => some (True, z)
  | z, (o, n, x) :: r => match putA z o (ev s x).dem2 with
    | some (c, z') => match fillA s z' r with
      | some (c', z'') => some (avSize (ev s x).dem2 = n ∧ c ∧ c', z'')
      | none => none
    | none => none

def cellsPV : AV → Option (List PV)
  | .pv p => some [p]
  | .pagg l => some l
  | _ => none
def fillR (s : S) (sz : Nat) : List (List PV) → List (Nat × Opd) → Option (Prop × List (List PV))
  | rows, [] => some (True, rows)
  | rows, (i, x) :: r => match cellsPV (ev s x).dem2 with
    | some row => match fillR s sz (rows.set i row) r with
      | some (c, rows') => some (row.length = sz ∧ i < rows.length ∧ c, rows')
      | none => none
    | none => none

def stOk (st : Option Nat) (y : Nat) : Bool := match st with
  | none => true
  | some x => x == y

/-- Loads of a run of cells: the whole content, or a part of it. -/
def loadA (c : AV) (o : Nat) : Option (Nat × Bool) → Option (Prop × AV)
  | none => (getc c o).map fun r => (True, r)
  | some (k, true) => match c with
    | .pagg l => some (o = 0 ∧ l.length = k, .pagg l)
    | .rp l => some (o = 0 ∧ l.length = k, .pagg l)
    | .agg l => some (o = 0 ∧ l.length = k, normA (l.map AV.dem0))
    | _ => none
  | some (k, false) => match c with
    | .pagg l => some (o + k ≤ l.length, .pagg ((l.drop o).take k))
    | .rp l => some (o + k ≤ l.length, .pagg ((l.drop o).take k))
    | .agg l => some (o + k ≤ l.length, normA (((l.drop o).take k).map AV.dem0))
    | _ => none

/-- Stores of a run of cells. -/
def storeA (c : AV) (o : Nat) (v : AV) : Option (Nat × Bool) → Option (Prop × AV)
  | none => if v.storable then putA c o v else none
  | some (k, true) => match c, v with
    | .pagg l, .pagg lv => some (o = 0 ∧ lv.length = k ∧ l.length = k, .pagg lv)
    | .pagg l, .agg lv => some (o = 0 ∧ lv.length = k ∧ l.length = k ∧ lv.all AV.storable = true, .agg lv)
    | .agg l, .pagg lv => some (o = 0 ∧ lv.length = k ∧ l.length = k, .pagg lv)
    | .agg l, .agg lv => some (o = 0 ∧ lv.length = k ∧ l.length = k ∧ lv.all AV.storable = true, .agg lv)
    | _, _ => none
  | some (k, false) => match v with
    | .pagg lv => (putA c o v).map fun (c, r) => (lv.length = k ∧ c, r)
    | .agg lv => (putA c o v).map fun (c, r) => (lv.length = k ∧ c, r)
    | _ => none

/-- The rows of what is appended. -/
def rowsA (s : S) (st : Option Nat) : AV → Option (Prop × Nat × List (List PV))
  | .pv (.sl sz es) => some (True, sz, es)
  | .os _ sz es => some (True, sz, es)
  | .sr y o n sz => if sz = 1 ∧ st = some y then (match s (.m y) with
    | .pagg l => some (o + n ≤ l.length, 1, ((l.drop o).take n).map fun p => [p])
    | _ => none) else none
  | _ => none

def eff (s : S) : IOp → Option (Prop × List (Key × AV))
  | .p d o xs => match pval o (xs.map (evd s)) with
    | some (c, r) => some (c, [(.t d, r)])
    | none => none
  | .mv d n => some (True, [(.t n, (s (.t n)).dem2), (.t d, s (.t n))])
  | .alloc d z => some (True, [(.m d, z), (.t d, .ptr d 0)])
  | .box d x => match toCells (ev s x).dem2 with
    | some z => some (True, [(.m d, z), (.t d, .ptr d 0)])
    | none => none
  | .build d z ps => match fillA s z ps with
    | some (c, r) => some (c, [(.t d, r)])
    | none => none
  | .bslice d e sz n z ps => match fillR s sz (List.replicate n z) ps with
    | some (c, rows) => some (c, [(.t d, .os e sz rows)])
    | none => none
  | .mks d z x => match (ev s x).dem2 with
    | .pv (.int _ n) => some (0 ≤ n ∧ n ≤ 100000000000, [(.m d, .pagg (List.replicate n.toNat z).flatten), (.t d, .sr d 0 n.toNat z.length)])
    | _ => none
  | .load d n st x => match ev s x with
    | .ptr y o => if stOk st y then (match loadA (s (.m y)) o n with
      | some (c, r) => some (c, [(.t d, r)])
      | none => none) else none
    | .rp l => match loadA (.rp l) 0 n with
      | some (c, r) => some (c, [(.t d, r)])
      | none => none
    | _ => none
  | .loadmv d st x => match ev s x with
    | .ptr y o => if stOk st y then (match s (.m y) with
      | .agg l => match l[o]? with
        | some (.os e sz es) => some (True, [(.m y, .agg (l.set o (.pv (.sl sz es)))), (.t d, .os e sz es)])
        | _ => none
      | _ => none) else none
    | _ => none
  | .store n st x v => match ev s x with
    | .ptr y o => if stOk st y then (match storeA (s (.m y)) o (ev s v).dem2 n with
      | some (c, r) => some (c, [(.m y, r)])
      | none => none) else none
    | _ => none
  | .storemv st x n => match ev s x with
    | .ptr y o => if stOk st y then (match s (.t n) with
      | .os e sz es => match s (.m y) with
        | .pagg l => some (o < l.length, [(.t n, .pv (.sl sz es)), (.m y, .agg ((l.map AV.pv).set o (.os e sz es)))])
        | .agg l => some (o < l.length, [(.t n, .pv (.sl sz es)), (.m y, .agg (l.set o (.os e sz es)))])
        | _ => none
      | _ => none) else none
    | _ => none
  | .storemva k st x n => match ev s x with
    | .ptr y o => if stOk st y then (match s (.t n) with
      | .agg l => match s (.m y) with
        | .pagg l' => some (o = 0 ∧ l.length = k ∧ l'.length = k ∧ l.all AV.storable = true, [(.t n, .agg (l.map AV.dem0)), (.m y, .agg l)])
        | .agg l' => some (o = 0 ∧ l.length = k ∧ l'.length = k ∧ l.all AV.storable = true, [(.t n, .agg (l.map AV.dem0)), (.m y, .agg l)])
        | _ => none
      | _ => none) else none
    | _ => none
  | .app d e sz n st x => match s (.t n) with
    | .os e' sz' es => match rowsA s st (ev s x) with
      | some (c, szx, rows) => some ((e' = e ∧ sz' = sz ∧ szx = sz) ∧ c ∧ es.length + rows.length ≤ 100000000000, [(.t n, .pv (.sl sz es)), (.t d, .os e sz (es ++ rows))])
      | none => none
    | _ => none
  | .rbox d x => match toCells (ev s x).dem2 with
    | some (.pagg l) => some (True, [(.t d, .rp l)])
    | _ => none
  | .gidx d tab x => match (ev s x).dem2 with
    | .pv (.int _ i) => some (0 ≤ i ∧ i < (tab.length : Int), [(.t d, .rp [.int .u8 (tab.getD i.toNat 0 : Nat)])])
    | _ => none
  | .fzb d n => match s (.t n) with
    | .os _ sz es => some (0 < es.length, [(.t n, .pv (.sl sz es)), (.t d, .pv (.sl sz es))])
    | _ => none
  | .copy d v st x y => match ev s x with
    | .sr v' o n sz => if v' = v then (match s (.m v) with
      | .pagg l => match rowsA s st (ev s y) with
        | some (c, szx, rows) => some (c ∧ szx = 1 ∧ sz = 1 ∧ o + n ≤ l.length, [(.m v, .pagg (l.take o ++ (rows.take n).flatten ++ l.drop (o + min rows.length n))), (.t d, .pv (.int .i64 (min rows.length n : Nat)))])
        | none => none
      | _ => none) else none
    | _ => none
  | .call _ _ _ _ _ _ => none
  | .callv _ _ _ _ => none

def okCells : AV → List Value → Bool
  | .pagg l, cs => l.length == cs.length && (l.zip cs).all fun (p, v) => okC (.pv p) v
  | .agg l, cs => l.length == cs.length && (l.zip cs).all fun (p, v) => okC p v
  | _, _ => false
def zeroOf (P : Program) (e : TypeId) : Option Value := (P.info? e).bind (·.zero)
def okZero (P : Program) (e : TypeId) (z : AV) : Bool := match zeroOf P e with
  | some zv => okCells z zv.cells.toList
  | none => false
def okDst (N : Nat) (d : Nat) (o : Oper) : Bool := decide (o.dst = some d) && decide (d < N)
def okPlaces (place : Nat → Option (Nat × Nat)) : List (Nat × Nat × Opd) → List (Nat × Operand) → Bool
  | [], [] => true
  | (o, n, x) :: r, (i, y) :: r' => decide (place i = some (o, n)) && okX x y && okPlaces place r r'
  | _, _ => false
def okRows : List (Nat × Opd) → List (Nat × Operand) → Bool
  | [], [] => true
  | (j, x) :: r, (i, y) :: r' => i == j && okX x y && okRows r r'
  | _, _ => false
def okLoadT (P : Program) (t : TypeId) : Option (Nat × Bool) → Bool
  | none => decide (isAggT P t = some false) && szOf P t 1
  | some (k, _) => decide (isAggT P t = some true) && szOf P t k

def okI (P : Program) (N : Nat) (i : IOp) (o : Oper) : Bool :=
  match i with
  | .p d po xs => okDst N d o && okP P po xs o.op
  | .mv d n => okDst N d o && n != d && (match o.op with
    | .move (.tmp m) => m == n
    | .assign (.tmp m) => m == n
    | _ => false)
  | .alloc d z => okDst N d o && (match o.op with
    | .alloc e => okZero P e z
    | _ => false)
  | .box d x => okDst N d o && (match o.op with
    | .box _ y => okX x y
    | _ => false)
  | .build d z ps => okDst N d o && (match o.op with
    | .build t ps' => okZero P t z && (match P.underlying t with
      | some (.struct fs) => (match fs.toList.mapM (fun f => (P.info? f.type).map fun i => (f.offset, i.size)) with
        | some places => okPlaces (places.toArray[·]?) ps ps'.toList
        | none => false)
      | some (.array _ el) => (match (P.info? el).map (·.size) with
        | some sz => okPlaces (fun i => some (i * sz, sz)) ps ps'.toList
        | none => false)
      | _ => false)
    | _ => false)
  | .bslice d e sz n z ps => okDst N d o && (match o.op with
    | .buildSlice t n' ps' => n == n' && uSlice P t e && szOf P e sz && decide (0 < sz) && decide (n * sz ≤ 16777216) && okZero P e (.pagg z) && z.length == sz && okRows ps ps'.toList
    | _ => false)
  | .mks d z x => okDst N d o && (match o.op with
    | .makeSlice t l c => okX x l && okX x c && (match P.underlying t with
      | some (.slice e) => szOf P e z.length && decide (0 < z.length) && okZero P e (.pagg z) && (match (P.info? e).map (·.bytes) with
        | some by' => decide (by' ≤ 1000)
        | none => false)
      | _ => false)
    | _ => false)
  | .load d n st x => okDst N d o && (match o.op with
    | .load t y => okLoadT P t n && okX x y
    | _ => false)
  | .loadmv d st x => okDst N d o && (match o.op with
    | .load t y => okLoadT P t none && okX x y
    | _ => false)
  | .store n st x v => decide (o.dst = none) && (match o.op with
    | .store t y u => okLoadT P t n && okX x y && okX v u
    | _ => false)
  | .storemv st x n => decide (o.dst = none) && (match o.op with
    | .store t y (.tmp m) => okLoadT P t none && okX x y && m == n
    | _ => false)
  | .storemva k st x n => decide (o.dst = none) && (match o.op with
    | .store t y (.tmp m) => okLoadT P t (some (k, true)) && okX x y && m == n
    | _ => false)
  | .app d e sz n st x => okDst N d o && n != d && (match o.op with
    | .call c => (match c.callee with
      | .builtin .append => (match c.args.toList, c.argTypes.toList with
        | [.tmp m, y], [t, t'] => m == n && okX x y && t == t' && uSlice P t e && szOf P e sz && decide (0 < sz) && (match (P.info? e).map (·.bytes) with
          | some by' => decide (by' ≤ 1000)
          | none => false) && (match zeroOf P e with
          | some zv => zv.cells.size == sz
          | none => false)
        | _, _ => false)
      | _ => false)
    | _ => false)
  | .rbox d x => okDst N d o && (match o.op with
    | .box _ y => okX x y
    | _ => false)
  | .gidx d tab x => okDst N d o && (match o.op with
    | .indexAddr t (.global 0) y => okX x y && decide (tab = gtOf P) && (match arrOf P t with
      | some (some len, e) => len == tab.length && szOf P e 1
      | _ => false)
    | _ => false)
  | .fzb d n => okDst N d o && n != d && (match o.op with
    | .convert t t' (.tmp m) => m == n && t == t' && (match P.underlying t with
      | some (.slice e) => uInt P e .u8
      | _ => false)
    | _ => false)
  | .copy d _ _ x y => okDst N d o && (match o.op with
    | .call c => (match c.callee with
      | .builtin .copy => (match c.args.toList, c.argTypes.toList with
        | [ux, uy], [t, _] => okX x ux && okX y uy && (match P.underlying t with
          | some (.slice e) => szOf P e 1
          | _ => false)
        | _, _ => false)
      | _ => false)
    | _ => false)
  | .call _ _ _ _ _ _ => false
  | .callv _ _ _ _ => false

/-- The sites that an operation makes. -/
def IOp.makes : IOp → List Nat
  | .alloc d _ => [d]
  | .box d _ => [d]
  | .mks d _ _ => [d]
  | .call _ _ _ _ news _ => news
  | _ => []
end Go.Abs
end

section
/- The abstract machine's operations on memory answer as the model's do: values, variables, loads, stores. No condition. -/
namespace Go.Abs
open Go.RowKit

/-- What an operation leaves. -/
def Nxt (P : Program) (X : Ctx) (G : Gh) (o : Oper) (a : Act) (w : World) (s' : S) (mk : List Nat) : Prop :=
  ∃ a' w' G', (∀ (K : Act → World → Prop) (Q : Exit → Act → World → Prop), K a' w' → o.wp P a w K Q) ∧ Rel X G' s' a' w' ∧ a'.tmps.size = a.tmps.size ∧ ∀ x, x ∉ mk → G'.site x = G.site x

section
variable {P : Program} {X : Ctx} {G G' : Gh} {s s' : S} {a : Act} {w w' : World} {o : Oper} {c : Prop} {U : List (Key × AV)} {v : Value} {N : Nat} {mk : List Nat}

theorem Nxt.value (hr : (execOp a.eval o).run P w = .ok (.value v) w') (h : Rel X G' s' (a.put o.dst v) w') (hs : ∀ x, x ∉ mk → G'.site x = G.site x) : Nxt P X G o a w s' mk :=
  ⟨_, _, G', fun K Q hK => by unfold Oper.wp; rw [hr]; exact hK, h, put_size _ _ _, hs⟩
theorem Nxt.skip (hr : (execOp a.eval o).run P w = .ok .skip w') (hd : o.dst = none) (h : Rel X G' s' a w') (hs : ∀ x, x ∉ mk → G'.site x = G.site x) : Nxt P X G o a w s' mk :=
  ⟨_, _, G', fun K Q hK => by unfold Oper.wp; rw [hr]; simp only [Oper.upon, hd, Act.put]; exact hK, h, rfl, hs⟩

theorem okDst_spec {d : Nat} (h : okDst N d o = true) : o.dst = some d ∧ d < N := by simpa [okDst] using h

theorem okC_VR0 {fp : Nat → Nat → Prop} {site : Nat → Option Nat} {a : AV} {u : Value} (h : okC a u = true) : VR0 fp site w u a none := by
  have := okC_sound (fp := fp) (site := site) (w := w) h
  unfold okC at h
  split at h
  · exact this.1
  · exact this.1
  · exact this.1
  · exact this.1
  · exact this.1
  · exact this.1
  · cases h

theorem zip_at {α β : Type} {f : α × β → Bool} {l : List α} {r : List β} (h : (l.zip r).all f = true) {j : Nat} {x : α} {y : β} (hx : l[j]? = some x) (hy : r[j]? = some y) : f (x, y) = true := by
  rw [List.all_eq_true] at h
  exact h _ (List.mem_of_getElem? (i := j) (by simp [List.getElem?_zip_eq_some, hx, hy]))

theorem okCells_V2 {fp : Nat → Nat → Prop} {site : Nat → Option Nat} {z : AV} {cs : Array Value} (h : okCells z cs.toList = true) : V2 fp site w (.agg cs) z ∧ z.isAgg := by
  unfold okCells at h
  split at h
  · simp only [Bool.and_eq_true, beq_iff_eq] at h
    refine ⟨⟨⟨cs, rfl, ⟨h.1.symm, fun j u p hu hp => ?_⟩⟩, fun _ => rfl⟩, trivial⟩
    exact (okC_VR0 (site := fun _ => none) (zip_at h.2 hp hu)).1
  · simp only [Bool.and_eq_true, beq_iff_eq] at h
    refine ⟨⟨⟨cs, rfl, by simpa using h.1.symm, fun j p u hp hu => ?_⟩, fun _ _ => rfl⟩, trivial⟩
    exact okC_VR0 (zip_at h.2 hp (by simpa using hu))
  · cases h

theorem zero_spec {e : TypeId} {z : AV} (h : okZero P e z = true) : ∃ zv, (∀ w, (zeroValue e).run P w = .ok zv w) ∧ okCells z zv.cells.toList = true := by
  unfold okZero at h
  split at h
  · rename_i zv hz
    refine ⟨zv, fun w => ?_, h⟩
    unfold zeroOf at hz
    obtain ⟨i, hi, hz⟩ := Option.bind_eq_some_iff.1 hz
    simp [zeroValue, typeInfo, hi, hz]
  · cases h

theorem i_p {d : Nat} {po : POp} {xs : List Opd} (hR : Rel X G s a w) (hN : a.tmps.size = N) (hok : okI P N (.p d po xs) o = true) (he : eff s (.p d po xs) = some (c, U)) (hc : c) : Nxt P X G o a w (s.ups U) mk := by
  simp only [okI, Bool.and_eq_true] at hok
  obtain ⟨h1, h2⟩ := hok
  obtain ⟨hd, hlt⟩ := okDst_spec h1
  simp only [eff] at he
  split at he
  · rename_i c' r hp
    cases he
    obtain ⟨v, hr, hv⟩ := pSound hR.opdp h2 hp hc
    exact Nxt.value (G' := { G with own := clr G.own (.t d) }) hr (by rw [hd]; exact hR.put (by rw [hN]; exact hlt) hv) fun _ _ => rfl
  · cases he

theorem i_gidx {d : Nat} {tab : List Nat} {x : Opd} (hx : GlOK P X) (hR : Rel X G s a w) (hN : a.tmps.size = N) (hok : okI P N (.gidx d tab x) o = true) (he : eff s (.gidx d tab x) = some (c, U)) (hc : c) : Nxt P X G o a w (s.ups U) mk := by
  simp only [okI, Bool.and_eq_true] at hok
  obtain ⟨h1, h2⟩ := hok
  obtain ⟨hd, hlt⟩ := okDst_spec h1
  split at h2
  · rename_i t y hop
    simp only [Bool.and_eq_true, decide_eq_true_eq] at h2
    obtain ⟨⟨hy, htab⟩, hf⟩ := h2
    have hv : V2 (Abs.fp X G) G.site w (a.eval y) (ev s x).dem2 := hR.opd _ _ hy
    simp only [eff] at he
    split at he
    · rename_i k i e
      rw [e] at hv
      cases he
      obtain ⟨hc1, hc2⟩ := hc
      have e2 := hv.int
      split at hf
      · rename_i len el harr
        simp only [Bool.and_eq_true, beq_iff_eq, szOf, decide_eq_true_eq] at hf
        obtain ⟨rfl, hsz⟩ := hf
        obtain ⟨inf, hi, hsn⟩ := Option.map_eq_some_iff.1 hsz
        unfold arrOf at harr
        split at harr <;> simp only [Option.some.injEq, Prod.mk.injEq, reduceCtorEq, false_and] at harr
        rename_i n' e'' hu
        obtain ⟨rfl, rfl⟩ := harr
        have hget : tab[i.toNat]? = some (tab.getD i.toNat 0) := by
          rw [List.getD_eq_getElem?_getD, List.getElem?_eq_getElem (by omega)]
          rfl
        have hg : (gtOf P)[i.toNat]? = some (tab.getD i.toNat 0) := by rw [← htab]; exact hget
        obtain ⟨g1, g2⟩ := hx _ _ hg
        have hrun : (execOp a.eval o).run P w = .ok (.value (.pointer (some ⟨0, i.toNat, none⟩))) w := by
          have hcc : 0 ≤ i ∧ i < ((tab.length : Nat) : Int) := ⟨hc1, hc2⟩
          simp [execOp, hop, Instr.indexAt, Act.eval, asIntOf_run, run_underlying hu, Instr.sureAddr, hcc, sizeOf, typeInfo, hi, hsn, Addr.add_mid]
          simp [Act.eval] at e2
          simp [e2, asIntOf_run, hcc, hsn, Addr.add_mid]
        refine Nxt.value (G' := { G with own := clr G.own (.t d) }) hrun (by
          rw [hd]
          refine hR.put (by rw [hN]; exact hlt) (V2.mkrp fun j p hj => ?_)
          cases j with
          | zero =>
            simp only [List.getElem?_cons_zero, Option.some.injEq] at hj
            subst hj
            exact ⟨⟨Or.inl g1, hR.okS _ _ g1⟩, _, by rw [Nat.add_zero, hR.fr.cell _ _ g1]; exact g2, .int _ _⟩
          | succ j => simp at hj) fun _ _ => rfl
      · cases hf
    · cases he
  · cases h2

theorem i_mv {d n : Nat} (hR : Rel X G s a w) (hN : a.tmps.size = N) (hok : okI P N (.mv d n) o = true) (he : eff s (.mv d n) = some (c, U)) : Nxt P X G o a w (s.ups U) mk := by
  simp only [okI, Bool.and_eq_true, bne_iff_ne] at hok
  obtain ⟨⟨h1, h2⟩, h3⟩ := hok
  obtain ⟨hd, hlt⟩ := okDst_spec h1
  cases he
  obtain ⟨G', hR', hs⟩ := hR.move (by rw [hN]; exact hlt) h2
  split at h3
  · rename_i m hop
    simp only [beq_iff_eq] at h3
    subst h3
    exact Nxt.value (v := a.tmps.getD m Go.undef) (by simp only [execOp, hop]; rfl) (by rw [hd]; exact hR') fun x _ => hs x
  · rename_i m hop
    simp only [beq_iff_eq] at h3
    subst h3
    exact Nxt.value (v := a.tmps.getD m Go.undef) (by simp only [execOp, hop]; rfl) (by rw [hd]; exact hR') fun x _ => hs x
  · cases h3

theorem i_alloc {d : Nat} {z : AV} (hR : Rel X G s a w) (hN : a.tmps.size = N) (hfree : G.site d = none) (hmd : s (.m d) = .undef) (hok : okI P N (.alloc d z) o = true) (he : eff s (.alloc d z) = some (c, U)) : Nxt P X G o a w (s.ups U) [d] := by
  simp only [okI, Bool.and_eq_true] at hok
  obtain ⟨h1, h2⟩ := hok
  obtain ⟨hd, hlt⟩ := okDst_spec h1
  cases he
  split at h2
  · rename_i e hop
    obtain ⟨zv, hz, hcs⟩ := zero_spec h2
    obtain ⟨hv, hagg⟩ := okCells_V2 (w := w) (fp := fp X G) (site := G.site) hcs
    obtain ⟨G', hR', hs⟩ := hR.newSite (d := d) (e := e) (by rw [hN]; exact hlt) hfree hmd hv hagg
    refine Nxt.value (v := .pointer (some ⟨w.heap.size, 0, none⟩)) (w' := w.alloc (.cells zv.cells e)) ?_ (by rw [hd]; exact hR') fun x hx => hs x (by simpa using hx)
    simp [execOp, hop, Instr.alloc, hz, newVar, newRow, newObj, Sem.run]
  · cases h2

theorem toCells_V2 {fp : Nat → Nat → Prop} {site : Nat → Option Nat} {x z : AV} (h : toCells x = some z) (hv : V2 fp site w v x) : V2 fp site w (.agg v.cells) z ∧ z.isAgg := by
  have key : ∀ (a : AV), VR0 fp site w v a none → v.cells = #[v] → V2 fp site w (.agg v.cells) (.agg [a]) := fun a ha hc => by
    refine ⟨⟨#[v], by rw [hc], rfl, fun j cc u h1 h2 => ?_⟩, fun _ _ => rfl⟩
    cases j with
    | zero => simp at h1 h2; subst h1 h2; exact ha
    | succ j => simp at h1
  cases x <;> simp only [toCells, AV.storable, Option.some.injEq, if_true, Bool.false_eq_true, if_false, reduceCtorEq] at h <;> subst h
  case pv p =>
    refine ⟨⟨⟨#[v], by rw [hv.pv.cells], ⟨rfl, fun j u q h1 h2 => ?_⟩⟩, fun _ => rfl⟩, trivial⟩
    cases j with
    | zero => simp at h1 h2; subst h1 h2; exact hv.pv
    | succ j => simp at h1
  case pagg l => obtain ⟨⟨cs, rfl, h1⟩, h2⟩ := hv; exact ⟨⟨⟨cs, rfl, h1⟩, h2⟩, trivial⟩
  case agg l => obtain ⟨⟨cs, rfl, h1⟩, h2⟩ := hv; exact ⟨⟨⟨cs, rfl, h1⟩, h2⟩, trivial⟩
  case os e sz es =>
    refine ⟨key _ hv.1 ?_, trivial⟩
    obtain ⟨xs, h1, _⟩ := hv.1
    rcases h1.2 with ⟨rfl, _⟩ | ⟨g, cap, cur, rfl, _⟩ <;> rfl
  case ptr y o => exact ⟨key _ hv.1 (by obtain ⟨b, _, rfl⟩ := hv.ptr; rfl), trivial⟩
  case rp l => exact ⟨key _ hv.1 (by obtain ⟨b, oo, rfl, _⟩ := hv.rp; rfl), trivial⟩
  case sr y o n sz => exact ⟨key _ hv.1 (by obtain ⟨b, cc, _, rfl, _⟩ := hv.sr; rfl), trivial⟩
  case fn f => exact ⟨key _ hv.1 (by have := hv.1.1; subst this; rfl), trivial⟩

theorem i_box {d : Nat} {x : Opd} (hR : Rel X G s a w) (hN : a.tmps.size = N) (hfree : G.site d = none) (hmd : s (.m d) = .undef) (hok : okI P N (.box d x) o = true) (he : eff s (.box d x) = some (c, U)) : Nxt P X G o a w (s.ups U) [d] := by
  simp only [okI, Bool.and_eq_true] at hok
  obtain ⟨h1, h2⟩ := hok
  obtain ⟨hd, hlt⟩ := okDst_spec h1
  simp only [eff] at he
  split at he
  · rename_i z hz
    cases he
    split at h2
    · rename_i e y hop
      have hx := hR.opd _ _ h2
      obtain ⟨hv, hagg⟩ := toCells_V2 hz hx
      obtain ⟨G', hR', hs⟩ := hR.newSite (d := d) (e := e) (by rw [hN]; exact hlt) hfree hmd hv hagg
      refine Nxt.value (v := .pointer (some ⟨w.heap.size, 0, none⟩)) (w' := w.alloc (.cells (a.eval y).cells e)) ?_ (by rw [hd]; exact hR') fun x hx => hs x (by simpa using hx)
      simp [execOp, hop, Instr.box, newVar, newRow, newObj, Sem.run]
    · cases h2
  · cases he

/-- A new block that nothing may write. -/
theorem Rel.newRp (h : Rel X G s a w) {d : Nat} (hd : d < a.tmps.size) {cs : Array Value} {e : TypeId} {l : List PV} (hc : PRs (Abs.fp X G) w cs.toList l) :
    ∃ G', Rel X G' (s.up (.t d) (.rp l)) (a.put (some d) (.pointer (some ⟨w.heap.size, 0, none⟩))) (w.alloc (.cells cs e)) ∧ ∀ x, G'.site x = G.site x := by
  refine ⟨⟨G.site, clr G.own (.t d)⟩, ?_, fun x => rfl⟩
  have hsub : ∀ k j be, clr G.own (.t d) k j = some be → G.own k j = some be := fun k j be hk => by
    simp only [clr] at hk
    split at hk
    · cases hk
    · exact hk
  have hno : ∀ k j e', clr G.own (.t d) k j ≠ some (w.heap.size, e') := fun k j e' hk => by
    have := (h.ownF _ _ _ _ (hsub _ _ _ hk)).1
    omega
  have hns : ∀ x, G.site x ≠ some w.heap.size := fun x hx => by
    have := (h.siteF x _ hx).1
    omega
  refine h.newBlock _ (fun x b hb => hb) (fun x b hb => Or.inl hb) (fun k j b e' hb => Or.inl (hsub _ _ _ hb)) (fun x y h1 h2 => (hns x h1).elim) (fun k j k' j' e' e'' h1 h2 => (hno _ _ _ h1).elim) (fun k j e' x h1 => (hno _ _ _ h1).elim) (fun hfp t => ?_) (fun hfp x => ?_) ((put_defers _ _ _).trans h.df)
  · by_cases ht : t = d
    · subst ht
      rw [getD_put_same hd, S.up_same]
      have e1 : clr G.own (.t t) (.t t) = fun _ => none := by funext j; simp [clr]
      simp only [e1]
      refine V2.mkrp fun j p hp => ?_
      obtain ⟨u, hu, hpr⟩ := hc.get hp
      rw [Nat.zero_add]
      refine ⟨⟨Or.inr (Or.inl h.fr.size), hns, fun k j e' hk => (hno _ _ _ hk).elim⟩, u, ?_, hpr.mono hfp⟩
      rw [cell_of_heap (heap_alloc_new w _), ← Array.getElem?_toList]
      exact hu
    · rw [getD_put_other ht, S.up_other _ _ (by simp [ht])]
      have e1 : clr G.own (.t d) (.t t) = G.own (.t t) := by funext j; simp [clr, ht]
      simp only [e1]
      exact (h.tmp t).mono hfp (fun _ _ h => h) fun j g e' he => own_heap h _ he
  · rw [S.up_other _ _ (by simp)]
    have e1 : clr G.own (.t d) (.m x) = G.own (.m x) := by funext j; simp [clr]
    simp only [e1]
    exact (h.mem x).mono hfp (fun _ _ h => h) (fun b hb => ⟨hb, Below.heap_alloc w _ b (h.siteF x b hb).1⟩) fun j g e' he => own_heap h _ he
theorem i_rbox {d : Nat} {x : Opd} (hR : Rel X G s a w) (hN : a.tmps.size = N) (hok : okI P N (.rbox d x) o = true) (he : eff s (.rbox d x) = some (c, U)) : Nxt P X G o a w (s.ups U) mk := by
  simp only [okI, Bool.and_eq_true] at hok
  obtain ⟨h1, h2⟩ := hok
  obtain ⟨hd, hlt⟩ := okDst_spec h1
  simp only [eff] at he
  split at he
  · rename_i l hz
    cases he
    split at h2
    · rename_i e y hop
      have hx := hR.opd _ _ h2
      obtain ⟨⟨⟨cs, e1, hp⟩, _⟩, _⟩ := toCells_V2 hz hx
      have hcs : (a.eval y).cells = cs := by cases e1; rfl
      obtain ⟨G', hR', hs⟩ := hR.newRp (d := d) (e := e) (by rw [hN]; exact hlt) hp
      refine Nxt.value (v := .pointer (some ⟨w.heap.size, 0, none⟩)) (w' := w.alloc (.cells cs e)) ?_ (by rw [hd]; exact hR') fun x hx => hs x
      rw [← hcs]
      simp [execOp, hop, Instr.box, newVar, newRow, newObj, Sem.run]
    · cases h2
  · cases he

/-- What an aggregate holds, once some of its cells are replaced. -/
def ow1 (ow : Nat → Option (Nat × Nat)) (o : Nat) (ov : Option (Nat × Nat)) (j : Nat) : Option (Nat × Nat) := if j = o then ov else ow j

theorem splice_get {α : Type} {l vs : List α} {o j : Nat} (h : o + vs.length ≤ l.length) : (l.take o ++ vs ++ l.drop (o + vs.length))[j]? = if j < o then l[j]? else if j < o + vs.length then vs[j - o]? else l[j]? := by
  rw [List.append_assoc, List.getElem?_append, List.getElem?_append]
  simp only [List.length_take, List.getElem?_take, List.getElem?_drop]
  have : min o l.length = o := by omega
  rw [this]
  split
  · rfl
  · split
    · rw [if_pos (by omega)]
    · rw [if_neg (by omega)]
      congr 1
      omega

/-- A scalar put into an aggregate. -/
theorem put0 {fp : Nat → Nat → Prop} {site : Nat → Option Nat} {z r v0 : AV} {o : Nat} {cs : Array Value} {ow : Nat → Option (Nat × Nat)} {ov : Option (Nat × Nat)} {u : Value}
    (hz : VR1 fp site w (.agg cs) z ow) (hagg : z.isAgg) (hv : VR0 fp site w u v0 ov) (hst : v0.storable = true) (hp : putA z o v0 = some (c, r)) (hc : c) :
    o < cs.size ∧ VR1 fp site w (.agg (cs.setIfInBounds o u)) r (ow1 ow o ov) ∧ r.isAgg := by
  have genA : ∀ l : List AV, VR1 fp site w (.agg cs) (.agg l) ow → o < l.length → o < cs.size ∧ VR1 fp site w (.agg (cs.setIfInBounds o u)) (.agg (l.set o v0)) (ow1 ow o ov) := by
    intro l hl hlt
    obtain ⟨⟨cs', e, h1, h2⟩, h3⟩ := hl
    cases e
    refine ⟨by omega, ⟨_, rfl, by simp [h1], fun j cc uu hj hu => ?_⟩, fun j hj => ?_⟩
    · rw [List.getElem?_set] at hj
      rw [Array.getElem?_setIfInBounds] at hu
      unfold ow1
      by_cases hjo : o = j
      · subst hjo
        rw [if_pos rfl, if_pos hlt] at hj
        rw [if_pos rfl] at hu
        cases hj
        split at hu
        · cases hu; rw [if_pos rfl]; exact hv
        · cases hu
      · rw [if_neg hjo] at hj hu
        rw [if_neg (Ne.symm hjo)]
        exact h2 j cc uu hj hu
    · unfold ow1
      rw [List.length_set] at hj
      rw [if_neg (by omega)]
      exact h3 j hj
  have toA : ∀ l : List PV, VR1 fp site w (.agg cs) (.pagg l) ow → VR1 fp site w (.agg cs) (.agg (l.map AV.pv)) ow := by
    intro l hl
    obtain ⟨⟨cs', e, h1⟩, h3⟩ := hl
    cases e
    refine ⟨⟨cs, rfl, by simpa using h1.1, fun j cc uu hj hu => ?_⟩, fun j _ => h3 j⟩
    rw [List.getElem?_map, Option.map_eq_some_iff] at hj
    obtain ⟨p, hp, rfl⟩ := hj
    exact ⟨h1.2 j uu p (by simpa using hu) hp, h3 j⟩
  cases z <;> simp only [AV.isAgg] at hagg
  case pagg l =>
    cases v0 <;> simp only [AV.storable, Bool.false_eq_true] at hst
    case pv p =>
      simp only [putA, Option.some.injEq, Prod.mk.injEq] at hp
      obtain ⟨rfl, rfl⟩ := hp
      obtain ⟨⟨cs', e, h1⟩, h3⟩ := hz
      cases e
      have hl : cs.size = l.length := by simpa using h1.1
      refine ⟨by omega, ⟨⟨_, rfl, ?_⟩, fun j => ?_⟩, trivial⟩
      · rw [Array.toList_setIfInBounds]
        exact h1.set o hv.1
      · unfold ow1
        split
        · exact hv.2
        · exact h3 j
    all_goals
      simp only [putA, AV.storable, if_true, Option.some.injEq, Prod.mk.injEq] at hp
      obtain ⟨rfl, rfl⟩ := hp
      obtain ⟨q1, q2⟩ := genA _ (toA l hz) (by simpa using hc)
      exact ⟨q1, q2, trivial⟩
  case agg l =>
    cases v0 <;> simp only [AV.storable, Bool.false_eq_true] at hst
    all_goals
      simp only [putA, AV.storable, if_true, Option.some.injEq, Prod.mk.injEq] at hp
      obtain ⟨rfl, rfl⟩ := hp
      obtain ⟨q1, q2⟩ := genA _ hz hc
      exact ⟨q1, q2, trivial⟩
end
end Go.Abs
end

section
/- The abstract machine's operations on memory answer as the model's do: aggregates that are built, slices that are built. No condition. -/
namespace Go.Abs
open Go.RowKit

def spl (cs : Array Value) (o : Nat) (vs : Array Value) : Array Value := (cs.toList.take o ++ vs.toList ++ cs.toList.drop (o + vs.size)).toArray

section
variable {P : Program} {X : Ctx} {G G' : Gh} {s s' : S} {a : Act} {w w' : World} {o : Oper} {c : Prop} {U : List (Key × AV)} {v : Value} {N : Nat} {mk : List Nat}
variable {fp : Nat → Nat → Prop} {site : Nat → Option Nat}

theorem spl_get {cs vs : Array Value} {o j : Nat} (h : o + vs.size ≤ cs.size) : (spl cs o vs)[j]? = if j < o then cs[j]? else if j < o + vs.size then vs[j - o]? else cs[j]? := by
  have := splice_get (l := cs.toList) (vs := vs.toList) (o := o) (j := j) (by simpa using h)
  simpa [spl] using this
theorem spl_size {cs vs : Array Value} {o : Nat} (h : o + vs.size ≤ cs.size) : (spl cs o vs).size = cs.size := by
  simp [spl]; omega
theorem spl_one {cs : Array Value} {o : Nat} {u : Value} (h : o < cs.size) : spl cs o #[u] = cs.setIfInBounds o u := by
  apply Array.ext_getElem?
  intro j
  rw [spl_get (show o + 1 ≤ cs.size from h), Array.getElem?_setIfInBounds]
  by_cases h1 : j < o
  · rw [if_pos h1, if_neg (by omega)]
  · rw [if_neg h1]
    by_cases h2 : j = o
    · subst h2; simp [h]
    · have : ¬ j < o + 1 := by omega
      simp [this, Ne.symm h2]

theorem fold_spl : ∀ (vs : List Value) (off k : Nat) (cs : Array Value), off + k + vs.length ≤ cs.size →
    ((vs.zipIdx k).foldl (fun cs (p : Value × Nat) => cs.setIfInBounds (off + p.2) p.1) cs) = spl cs (off + k) vs.toArray
  | [], off, k, cs, h => by simp [spl]
  | u :: vs, off, k, cs, h => by
    simp only [List.zipIdx_cons, List.foldl_cons]
    simp only [List.length_cons] at h
    rw [fold_spl vs off (k + 1) _ (by simp; omega)]
    apply Array.ext_getElem?
    intro j
    rw [spl_get (by simp; omega), spl_get (by simp; omega), Array.getElem?_setIfInBounds]
    simp only [List.size_toArray, List.length_cons]
    by_cases h1 : j < off + k
    · rw [if_pos h1, if_pos (by omega), if_neg (by omega)]
    · by_cases h2 : j = off + k
      · subst h2
        rw [if_pos (by omega), if_pos rfl, if_pos (by omega), if_neg (by omega), if_pos (by omega)]
        simp
      · rw [if_neg (show ¬ j < off + k by omega), if_neg (show ¬ j < off + (k + 1) by omega)]
        by_cases h3 : j < off + k + (vs.length + 1)
        · rw [if_pos (by omega), if_pos h3]
          rw [show j - (off + k) = (j - (off + (k + 1))) + 1 by omega]
          simp
        · rw [if_neg (by omega), if_neg h3, if_neg (by omega)]

def owN (ow : Nat → Option (Nat × Nat)) (o n : Nat) (j : Nat) : Option (Nat × Nat) := if o ≤ j ∧ j < o + n then none else ow j

theorem pagg_agg {cs : Array Value} {l : List PV} {ow : Nat → Option (Nat × Nat)} (hl : VR1 fp site w (.agg cs) (.pagg l) ow) : VR1 fp site w (.agg cs) (.agg (l.map AV.pv)) ow := by
  obtain ⟨⟨cs', e, h1⟩, h3⟩ := hl
  cases e
  refine ⟨⟨cs, rfl, by simpa using h1.1, fun j cc uu hj hu => ?_⟩, fun j _ => h3 j⟩
  rw [List.getElem?_map, Option.map_eq_some_iff] at hj
  obtain ⟨p, hp, rfl⟩ := hj
  exact ⟨h1.2 j uu p (by simpa using hu) hp, h3 j⟩

theorem agg_splice {cs vs : Array Value} {l lv : List AV} {ow : Nat → Option (Nat × Nat)} {o : Nat} (hz : VR1 fp site w (.agg cs) (.agg l) ow) (hv : VR1 fp site w (.agg vs) (.agg lv) (fun _ => none)) (hle : o + lv.length ≤ l.length) :
    o + vs.size ≤ cs.size ∧ vs.size = lv.length ∧ VR1 fp site w (.agg (spl cs o vs)) (.agg (l.take o ++ lv ++ l.drop (o + lv.length))) (owN ow o vs.size) := by
  obtain ⟨⟨cs', e, h1, h2⟩, h3⟩ := hz
  cases e
  obtain ⟨⟨vs', e, g1, g2⟩, g3⟩ := hv
  cases e
  have hle' : o + vs.size ≤ cs.size := by omega
  refine ⟨hle', g1, ⟨_, rfl, by rw [spl_size hle', h1]; simp; omega, fun j cc u hj hu => ?_⟩, fun j hj => ?_⟩
  · rw [splice_get hle] at hj
    rw [spl_get hle'] at hu
    unfold owN
    by_cases q1 : j < o
    · rw [if_pos q1] at hj hu
      rw [if_neg (by omega)]
      exact h2 j cc u hj hu
    · rw [if_neg q1] at hj hu
      by_cases q2 : j < o + lv.length
      · rw [if_pos q2] at hj
        rw [if_pos (by omega)] at hu
        rw [if_pos (by omega)]
        exact g2 _ cc u hj hu
      · rw [if_neg q2] at hj
        rw [if_neg (by omega)] at hu
        rw [if_neg (by omega)]
        exact h2 j cc u hj hu
  · unfold owN
    simp at hj
    rw [if_neg (by omega)]
    exact h3 j (by omega)

/-- An aggregate put into an aggregate. -/
theorem putN {z r v0 : AV} {o : Nat} {cs vs : Array Value} {ow : Nat → Option (Nat × Nat)}
    (hz : VR1 fp site w (.agg cs) z ow) (hagg : z.isAgg) (hv : VR1 fp site w (.agg vs) v0 (fun _ => none)) (hva : v0.isAgg) (hp : putA z o v0 = some (c, r)) (hc : c) :
    o + vs.size ≤ cs.size ∧ VR1 fp site w (.agg (spl cs o vs)) r (owN ow o vs.size) ∧ r.isAgg ∧ vs.size = avSize v0 := by
  have e0 : ∀ {l lv : List AV} {rr : AV}, VR1 fp site w (.agg cs) (.agg l) ow → VR1 fp site w (.agg vs) (.agg lv) (fun _ => none) → o + lv.length ≤ l.length → rr = .agg (l.take o ++ lv ++ l.drop (o + lv.length)) →
      o + vs.size ≤ cs.size ∧ VR1 fp site w (.agg (spl cs o vs)) rr (owN ow o vs.size) ∧ rr.isAgg ∧ vs.size = lv.length := by
    intro l lv rr h1 h2 h3 h4
    subst h4
    obtain ⟨q1, q2, q3⟩ := agg_splice h1 h2 h3
    exact ⟨q1, q3, trivial, q2⟩
  cases z <;> simp only [AV.isAgg] at hagg <;> cases v0 <;> simp only [AV.isAgg] at hva
  case pagg.pagg l lv =>
    simp only [putA, Option.some.injEq, Prod.mk.injEq] at hp
    obtain ⟨rfl, rfl⟩ := hp
    obtain ⟨⟨cs', e, h1⟩, h3⟩ := hz
    cases e
    obtain ⟨⟨vs', e, g1⟩, _⟩ := hv
    cases e
    have e1 : vs.size = lv.length := by simpa using g1.1
    have e2 : cs.size = l.length := by simpa using h1.1
    refine ⟨by omega, ⟨⟨_, rfl, ?_⟩, fun j => ?_⟩, trivial, e1⟩
    · have := ((h1.take o).append g1).append (h1.drop (o + lv.length))
      simpa [spl, e1] using this
    · unfold owN; split
      · rfl
      · exact h3 j
  case pagg.agg l lv =>
    simp only [putA, Option.some.injEq, Prod.mk.injEq] at hp
    obtain ⟨rfl, rfl⟩ := hp
    exact e0 (pagg_agg hz) hv (by simpa using hc.1) (by rw [← List.map_take, ← List.map_drop])
  case agg.pagg l lv =>
    simp only [putA, Option.some.injEq, Prod.mk.injEq] at hp
    obtain ⟨rfl, rfl⟩ := hp
    have := e0 hz (pagg_agg hv) (by simpa using hc) rfl
    simpa [avSize] using this
  case agg.agg l lv =>
    simp only [putA, Option.some.injEq, Prod.mk.injEq] at hp
    obtain ⟨rfl, rfl⟩ := hp
    exact e0 hz hv hc.1 rfl

theorem VR0.one {a : AV} {ow : Option (Nat × Nat)} (h : VR0 fp site w v a ow) (hs : a.storable = true) : v.oneCell' = true ∧ v.cells = #[v] := by
  cases a <;> simp only [AV.storable, Bool.false_eq_true] at hs
  · exact ⟨h.1.one, h.1.cells⟩
  · obtain ⟨xs, h1, _⟩ := h
    rcases h1.2 with ⟨rfl, _⟩ | ⟨g, cap, cur, rfl, _⟩ <;> exact ⟨rfl, rfl⟩
  · obtain ⟨⟨b, _, rfl⟩, _⟩ := h; exact ⟨rfl, rfl⟩
  · obtain ⟨⟨b, oo, rfl, _⟩, _⟩ := h; exact ⟨rfl, rfl⟩
  · obtain ⟨⟨b, cc, _, rfl, _⟩, _⟩ := h; exact ⟨rfl, rfl⟩
  · obtain ⟨rfl, _⟩ := h; exact ⟨rfl, rfl⟩

theorem owN_none (o n : Nat) : owN (fun _ => none) o n = fun _ => none := by funext j; simp [owN]
theorem ow1_none (o : Nat) : ow1 (fun _ => none) o none = fun _ => none := by funext j; simp [ow1]

theorem V2_VR1 {a : AV} (h : V2 fp site w v a) (ha : a.isAgg) : VR1 fp site w v a (fun _ => none) := by cases a <;> first | exact h | exact ha.elim
theorem V2_VR0 {a : AV} (h : V2 fp site w v a) (ha : a.storable = true) : VR0 fp site w v a none := by
  cases a <;> simp only [AV.storable, Bool.false_eq_true] at ha <;> exact h.1
theorem VR1_V2 {a : AV} (h : VR1 fp site w v a (fun _ => none)) : V2 fp site w v a := by
  cases a <;> first | exact h | exact h.1.elim

/-- A value put into an aggregate. -/
theorem putV {z r v0 : AV} {o : Nat} {cs : Array Value} {u : Value}
    (hz : VR1 fp site w (.agg cs) z (fun _ => none)) (hagg : z.isAgg) (hv : V2 fp site w u v0) (hp : putA z o v0 = some (c, r)) (hc : c) :
    o + u.cells.size ≤ cs.size ∧ VR1 fp site w (.agg (spl cs o u.cells)) r (fun _ => none) ∧ r.isAgg ∧ u.cells.size = avSize v0 := by
  by_cases hst : v0.storable = true
  · have hv0 := V2_VR0 hv hst
    obtain ⟨_, hcells⟩ := hv0.one hst
    obtain ⟨q1, q2, q3⟩ := put0 hz hagg hv0 hst hp hc
    rw [ow1_none] at q2
    rw [hcells]
    refine ⟨q1, ?_, q3, ?_⟩
    · rw [spl_one q1]; exact q2
    · cases v0 <;> simp only [AV.storable, Bool.false_eq_true] at hst <;> rfl
  · have hva : v0.isAgg := by
      cases z <;> simp only [AV.isAgg] at hagg <;> cases v0 <;> first | trivial | exact absurd rfl hst | simp [putA, AV.storable] at hp
    have hv1 := V2_VR1 hv hva
    have hu : ∃ vs, u = .agg vs := by
      cases v0 <;> simp only [AV.isAgg] at hva
      · obtain ⟨⟨vs, rfl, _⟩, _⟩ := hv1; exact ⟨vs, rfl⟩
      · obtain ⟨⟨vs, rfl, _⟩, _⟩ := hv1; exact ⟨vs, rfl⟩
    obtain ⟨vs, rfl⟩ := hu
    obtain ⟨q1, q2, q3, q4⟩ := putN hz hagg hv1 hva hp hc
    rw [owN_none] at q2
    exact ⟨q1, q2, q3, q4⟩

theorem fill_sound {place : Nat → Option (Nat × Nat)} (H : OpdR fp site w a.eval (fun x => (ev s x).dem2)) : ∀ (ps : List (Nat × Nat × Opd)) (ps' : List (Nat × Operand)) (z r : AV) (c : Prop) (cs : Array Value),
    okPlaces place ps ps' = true → fillA s z ps = some (c, r) → c → VR1 fp site w (.agg cs) z (fun _ => none) → z.isAgg →
    ∃ cs', Instr.fill place cs (ps'.map fun (i, x) => (i, a.eval x)) = some cs' ∧ VR1 fp site w (.agg cs') r (fun _ => none) ∧ r.isAgg := by
  intro ps
  induction ps with
  | nil =>
    intro ps' z r c cs h1 h2 _ h3 h4
    cases ps' with
    | nil => simp only [fillA, Option.some.injEq, Prod.mk.injEq] at h2; obtain ⟨_, rfl⟩ := h2; exact ⟨cs, rfl, h3, h4⟩
    | cons _ _ => simp [okPlaces] at h1
  | cons p ps ih =>
    intro ps' z r c cs h1 h2 hc h3 h4
    obtain ⟨off, n, x⟩ := p
    cases ps' with
    | nil => simp [okPlaces] at h1
    | cons p' ps' =>
      obtain ⟨i, y⟩ := p'
      simp only [okPlaces, Bool.and_eq_true, decide_eq_true_eq] at h1
      obtain ⟨⟨hpl, hx⟩, h1⟩ := h1
      simp only [fillA] at h2
      split at h2
      · rename_i c1 z1 hput
        split at h2
        · rename_i c2 z2 hfill
          cases h2
          obtain ⟨hn, hc1, hc2⟩ := hc
          obtain ⟨q1, q2, q3, q4⟩ := putV h3 h4 (H _ _ hx) hput hc1
          dsimp only at q4
          obtain ⟨cs', g1, g2, g3⟩ := ih ps' z1 r c2 _ h1 hfill hc2 q2 q3
          refine ⟨cs', ?_, g2, g3⟩
          have hsz : (a.eval y).cells.size = n := by rw [q4]; exact hn
          have hfold : (a.eval y).cells.zipIdx.foldl (fun cs (x : Value × Nat) => cs.setIfInBounds (off + x.2) x.1) cs = spl cs off (a.eval y).cells := by
            have := fold_spl (a.eval y).cells.toList off 0 cs (by simpa using q1)
            rw [← Array.foldl_toList, Array.toList_zipIdx]
            simpa using this
          simp only [List.map_cons, Instr.fill, hpl]
          rw [if_neg (by simp [hsz]; omega)]
          rw [hfold]
          exact g1
        · cases h2
      · cases h2

theorem i_build {d : Nat} {z : AV} {ps : List (Nat × Nat × Opd)} (hR : Rel X G s a w) (hN : a.tmps.size = N) (hok : okI P N (.build d z ps) o = true) (he : eff s (.build d z ps) = some (c, U)) (hc : c) : Nxt P X G o a w (s.ups U) mk := by
  simp only [okI, Bool.and_eq_true] at hok
  obtain ⟨h1, h2⟩ := hok
  obtain ⟨hd, hlt⟩ := okDst_spec h1
  simp only [eff] at he
  split at he
  · rename_i c' r hfill
    cases he
    split at h2
    · rename_i t ps' hop
      simp only [Bool.and_eq_true] at h2
      obtain ⟨hz, h2⟩ := h2
      unfold okZero at hz
      split at hz
      · rename_i zv hzv
        unfold zeroOf at hzv
        obtain ⟨it, hit, hzi⟩ := Option.bind_eq_some_iff.1 hzv
        obtain ⟨hv, hagg⟩ := okCells_V2 (w := w) (fp := Abs.fp X G) (site := G.site) hz
        have hv1 := V2_VR1 hv hagg
        have fin : ∀ cs', P.built t (ps'.map fun (i, x) => (i, a.eval x)).toList = some cs' → VR1 (Abs.fp X G) G.site w (.agg cs') r (fun _ => none) → r.isAgg → Nxt P X G o a w (s.ups [(.t d, r)]) mk := by
          intro cs' hb hr _
          have hrun := run_build (P := P) w t _ cs' hb
          exact Nxt.value (G' := { G with own := clr G.own (.t d) }) (v := .agg cs') (by simp only [execOp, hop, Sem.run_bind, hrun, Result.andThen_ok]; rfl) (by rw [hd]; exact hR.put (by rw [hN]; exact hlt) (VR1_V2 hr)) fun _ _ => rfl
        split at h2
        · rename_i fs hu
          split at h2
          · rename_i places hpl
            obtain ⟨cs', g1, g2, g3⟩ := fill_sound hR.opd ps ps'.toList z r _ zv.cells h2 hfill hc hv1 hagg
            refine fin cs' ?_ g2 g3
            simp only [Program.built, hit, hu, hzi, hpl]
            simpa using g1
          · cases h2
        · rename_i n el hu
          split at h2
          · rename_i sz hsz
            obtain ⟨ie, hie, hsn⟩ := Option.map_eq_some_iff.1 hsz
            obtain ⟨cs', g1, g2, g3⟩ := fill_sound hR.opd ps ps'.toList z r _ zv.cells h2 hfill hc hv1 hagg
            refine fin cs' ?_ g2 g3
            simp only [Program.built, hit, hu, hzi, hie, hsn]
            simpa using g1
          · cases h2
        · cases h2
      · cases hz
    · cases h2
  · cases he
end
end Go.Abs
end

section
/- The abstract machine's operations on memory answer as the model's do: slices, loads, stores, appends. No condition. -/
namespace Go.Abs
open Go.RowKit

section
variable {P : Program} {X : Ctx} {G G' : Gh} {s s' : S} {a : Act} {w w' : World} {o : Oper} {c : Prop} {U : List (Key × AV)} {v : Value} {N : Nat} {mk : List Nat}
variable {fp : Nat → Nat → Prop} {site : Nat → Option Nat}

theorem flatten_set {α : Type} {sz : Nat} : ∀ {rows : List (List α)} {i : Nat} {row : List α}, (∀ r ∈ rows, r.length = sz) → i < rows.length → (rows.set i row).flatten = rows.flatten.take (i * sz) ++ row ++ rows.flatten.drop (i * sz + sz) := by
  intro rows
  induction rows with
  | nil => intro i row _ h; simp at h
  | cons r rows ih =>
    intro i row hl hi
    have hr := hl r (by simp)
    cases i with
    | zero =>
      simp only [List.set_cons_zero, List.flatten_cons, Nat.zero_mul, List.take_zero, List.nil_append, Nat.zero_add]
      rw [List.drop_append_of_le_length (by omega), List.drop_of_length_le (by omega), List.nil_append]
    | succ i =>
      simp only [List.set_cons_succ, List.flatten_cons]
      rw [ih (fun r hr => hl r (by simp [hr])) (by simpa using hi)]
      have e1 : (i + 1) * sz = r.length + i * sz := by rw [Nat.add_mul]; omega
      rw [e1, List.take_length_add_append, Nat.add_assoc, List.drop_length_add_append]
      simp

theorem cellsPV_PRs {x : AV} {row : List PV} (h : cellsPV x = some row) (hv : V2 fp site w v x) : PRs fp w v.cells.toList row := by
  cases x <;> simp only [cellsPV, Option.some.injEq, reduceCtorEq] at h <;> subst h
  · rw [hv.pv.cells]
    refine ⟨rfl, fun j u q h1 h2 => ?_⟩
    cases j with
    | zero => simp at h1 h2; subst h1 h2; exact hv.pv
    | succ j => simp at h1
  · obtain ⟨⟨cs, rfl, h1⟩, h2⟩ := hv; exact h1

theorem fillR_sound {sz : Nat} (H : OpdR fp site w a.eval (fun x => (ev s x).dem2)) : ∀ (ps : List (Nat × Opd)) (ps' : List (Nat × Operand)) (rows rows' : List (List PV)) (c : Prop) (cs : Array Value),
    okRows ps ps' = true → fillR s sz rows ps = some (c, rows') → c → PRs fp w cs.toList rows.flatten → (∀ r ∈ rows, r.length = sz) →
    ∃ cs', Instr.fill (fun i => some (i * sz, sz)) cs (ps'.map fun (i, x) => (i, a.eval x)) = some cs' ∧ PRs fp w cs'.toList rows'.flatten ∧ (∀ r ∈ rows', r.length = sz) ∧ rows'.length = rows.length := by
  intro ps
  induction ps with
  | nil =>
    intro ps' rows rows' c cs h1 h2 _ h3 h4
    cases ps' with
    | nil => simp only [fillR, Option.some.injEq, Prod.mk.injEq] at h2; obtain ⟨_, rfl⟩ := h2; exact ⟨cs, rfl, h3, h4, rfl⟩
    | cons _ _ => simp [okRows] at h1
  | cons p ps ih =>
    intro ps' rows rows' c cs h1 h2 hc h3 h4
    obtain ⟨i, x⟩ := p
    cases ps' with
    | nil => simp [okRows] at h1
    | cons p' ps' =>
      obtain ⟨i', y⟩ := p'
      simp only [okRows, Bool.and_eq_true, beq_iff_eq] at h1
      obtain ⟨⟨hii, hx⟩, h1⟩ := h1
      have hii' : i = i' := hii.symm
      subst hii'
      simp only [fillR] at h2
      split at h2
      · rename_i row hrow
        split at h2
        · rename_i c2 z2 hfill
          cases h2
          obtain ⟨hn, hi, hc2⟩ := hc
          have hpr := cellsPV_PRs hrow (H _ _ hx)
          have hcl : (a.eval y).cells.size = sz := by have := hpr.1; simp at this; omega
          have hcs : cs.size = rows.length * sz := by have := h3.1; rw [flat_len h4] at this; simpa using this
          have hfit : i * sz + sz ≤ cs.size := by rw [hcs, ← Nat.succ_mul]; exact Nat.mul_le_mul_right _ hi
          have hrows : ∀ r ∈ rows.set i row, r.length = sz := fun r hr => by
            rcases List.mem_or_eq_of_mem_set hr with hr | rfl
            · exact h4 r hr
            · exact hn
          obtain ⟨cs', g1, g2, g3, g4⟩ := ih ps' (rows.set i row) rows' c2 (spl cs (i * sz) (a.eval y).cells) h1 hfill hc2 (by
            rw [flatten_set h4 hi]
            have := ((h3.take (i * sz)).append hpr).append (h3.drop (i * sz + sz))
            simpa [spl, hcl] using this) hrows
          refine ⟨cs', ?_, g2, g3, by simpa using g4⟩
          have hfold : (a.eval y).cells.zipIdx.foldl (fun cs (x : Value × Nat) => cs.setIfInBounds (i * sz + x.2) x.1) cs = spl cs (i * sz) (a.eval y).cells := by
            have := fold_spl (a.eval y).cells.toList (i * sz) 0 cs (by simp; omega)
            rw [← Array.foldl_toList, Array.toList_zipIdx]
            simpa using this
          simp only [List.map_cons, Instr.fill]
          rw [if_neg (by simp [hcl]; omega)]
          rw [hfold]
          exact g1
        · cases h2
      · cases h2

theorem made_PRs {fp : Nat → Nat → Prop} {sz n : Nat} {z : List PV} {zs : Array Value} (hzz : PRs fp w zs.toList z) (hzl : z.length = sz) (hpos : 0 < sz) : PRs fp w (madeCells zs (n * sz)).toList (List.replicate n z).flatten := by
  have hzs : zs.size = sz := by have := hzz.1; simp at this; omega
  have hrl : ∀ r ∈ List.replicate n z, r.length = sz := fun r hr => by rw [(List.mem_replicate.1 hr).2]; exact hzl
  refine ⟨by rw [flat_len hrl]; simp [madeCells], fun j u p hu hp => ?_⟩
  obtain ⟨i, r, k, g1, g2, rfl⟩ := flat_get hrl hp
  have hr : r = z := (List.mem_replicate.1 (List.mem_of_getElem? g1)).2
  subst hr
  have hk := (List.getElem?_eq_some_iff.1 g2).1
  rw [hzl] at hk
  simp only [madeCells, Array.toList_map, Array.toList_range, List.getElem?_map, Option.map_eq_some_iff] at hu
  obtain ⟨q, hq, rfl⟩ := hu
  have : q = i * sz + k := by
    obtain ⟨_, hq⟩ := List.getElem?_eq_some_iff.1 hq
    simpa using hq.symm
  subst this
  have e2 : (i * sz + k) % zs.size = k := by
    rw [hzs, Nat.mul_comm, Nat.mul_add_mod, Nat.mod_eq_of_lt hk]
  rw [e2]
  refine hzz.2 k _ p ?_ g2
  rw [getElem!_pos zs k (by omega), Array.getElem?_toList, Array.getElem?_eq_getElem]

theorem put_put (a : Act) (d : Nat) (u v : Value) : (a.put (some d) u).put (some d) v = a.put (some d) v := by simp [Act.put]
theorem up_up (s : S) (k : Key) (u v : AV) : (s.up k u).up k v = s.up k v := by
  funext j
  by_cases h : j = k
  · subst h; rw [S.up_same, S.up_same]
  · rw [S.up_other _ _ h, S.up_other _ _ h, S.up_other _ _ h]
theorem Rel.newSlice (h : Rel X G s a w) {d : Nat} (hd : d < a.tmps.size) (hfree : G.site d = none) (hmd : s (.m d) = .undef) {cs : Array Value} {e : TypeId} {c : AV} {n sz : Nat} (hn : n ≤ maxLen) (hc : V2 (Abs.fp X G) G.site w (.agg cs) c) (hagg : c.isAgg) :
    ∃ G', Rel X G' ((s.up (.m d) c).up (.t d) (.sr d 0 n sz)) (a.put (some d) (.slice (some ⟨w.heap.size, 0, none⟩) n n)) (w.alloc (.cells cs e)) ∧ ∀ x, x ≠ d → G'.site x = G.site x := by
  obtain ⟨G', hR, hs⟩ := h.newSite (e := e) hd hfree hmd hc hagg
  have hp := hR.tmp d
  rw [getD_put_same hd, S.up_same] at hp
  obtain ⟨⟨⟨b, hb, hv⟩, _⟩, _⟩ := hp
  cases hv
  have q := hR.put (d := d) (by rw [put_size]; exact hd) (v := .slice (some ⟨w.heap.size, 0, none⟩) n n) (av := .sr d 0 n sz) ⟨⟨⟨_, n, hb, rfl, Nat.le_refl _, hn⟩, rfl⟩, fun _ _ => rfl⟩
  rw [put_put, up_up] at q
  exact ⟨_, q, hs⟩
theorem i_mks {d : Nat} {z : List PV} {x : Opd} (hR : Rel X G s a w) (hN : a.tmps.size = N) (hfree : G.site d = none) (hmd : s (.m d) = .undef) (hok : okI P N (.mks d z x) o = true) (he : eff s (.mks d z x) = some (c, U)) (hc : c) : Nxt P X G o a w (s.ups U) [d] := by
  simp only [okI, Bool.and_eq_true] at hok
  obtain ⟨h1, h2⟩ := hok
  obtain ⟨hd, hlt⟩ := okDst_spec h1
  simp only [eff] at he
  split at he
  · rename_i k n hev
    cases he
    split at h2
    · rename_i t l cc hop
      simp only [Bool.and_eq_true] at h2
      obtain ⟨⟨hx1, hx2⟩, h2⟩ := h2
      split at h2
      · rename_i e hu
        simp only [Bool.and_eq_true, decide_eq_true_eq] at h2
        obtain ⟨⟨⟨hsz, hpos⟩, hz⟩, hby⟩ := h2
        obtain ⟨ie, hie, hsn⟩ := Option.map_eq_some_iff.1 (by simpa [szOf] using hsz)
        unfold okZero at hz
        split at hz
        · rename_i zv hzv
          unfold zeroOf at hzv
          obtain ⟨it, hit, hzi⟩ := Option.bind_eq_some_iff.1 hzv
          rw [hie] at hit
          cases hit
          simp only [hie, Option.map_some, decide_eq_true_eq] at hby
          obtain ⟨hv, _⟩ := okCells_V2 (w := w) (fp := Abs.fp X G) (site := G.site) hz
          have hzz : PRs (Abs.fp X G) w zv.cells.toList z := by obtain ⟨⟨cs, e1, h1⟩, _⟩ := hv; cases e1; exact h1
          have v1 : V2 (Abs.fp X G) G.site w (a.eval l) (ev s x).dem2 := hR.opd _ _ hx1
          have v2 : V2 (Abs.fp X G) G.site w (a.eval cc) (ev s x).dem2 := hR.opd _ _ hx2
          rw [hev] at v1 v2
          have key : ∀ u : Value, V2 (Abs.fp X G) G.site w u (.pv (.int k n)) → u = .int k n := fun u hu => by obtain ⟨⟨h, _⟩, _⟩ := hu; cases h; rfl
          have u1 : a.eval l = .int k n := key _ v1
          have u2 : a.eval cc = .int k n := key _ v2
          have hbb : (ie.bytes : Int) * n ≤ 281474976710656 := by
            have : (ie.bytes : Int) * n ≤ 1000 * 100000000000 := Int.mul_le_mul (by omega) hc.2 hc.1 (by decide)
            omega
          have hrun := run_make w t e ie zv hu hie hzi k k n n hc.1 (Int.le_refl _) hbb (by omega)
          have hcs := made_PRs (n := n.toNat) hzz rfl hpos
          rw [← hsn] at hcs
          obtain ⟨G', hR', hs⟩ := hR.newSlice (d := d) (e := e) (n := n.toNat) (sz := z.length) (by rw [hN]; exact hlt) hfree hmd (by unfold maxLen; omega) (cs := madeCells zv.cells (n.toNat * ie.size)) (c := .pagg (List.replicate n.toNat z).flatten) ⟨⟨_, rfl, hcs⟩, fun _ => rfl⟩ trivial
          refine Nxt.value (v := .slice (some ⟨w.heap.size, 0, none⟩) n.toNat n.toNat) (w' := w.alloc (.cells (madeCells zv.cells (n.toNat * ie.size)) e)) ?_ (by rw [hd]; exact hR') fun x hx => hs x (by simpa using hx)
          simp only [execOp, hop, u1, u2, Sem.run_bind, hrun, Result.andThen_ok]
          rfl
        · cases hz
      · cases h2
    · cases h2
  · cases he

theorem i_bslice {d e sz n : Nat} {z : List PV} {ps : List (Nat × Opd)} (hR : Rel X G s a w) (hN : a.tmps.size = N) (hok : okI P N (.bslice d e sz n z ps) o = true) (he : eff s (.bslice d e sz n z ps) = some (c, U)) (hc : c) : Nxt P X G o a w (s.ups U) mk := by
  simp only [okI, Bool.and_eq_true] at hok
  obtain ⟨h1, h2⟩ := hok
  obtain ⟨hd, hlt⟩ := okDst_spec h1
  simp only [eff] at he
  split at he
  · rename_i c' rows hfill
    cases he
    split at h2
    · rename_i t n' ps' hop
      simp only [Bool.and_eq_true, beq_iff_eq, decide_eq_true_eq] at h2
      obtain ⟨⟨⟨⟨⟨⟨⟨rfl, hu⟩, hsz⟩, hpos⟩, hsmall⟩, hz⟩, hzl⟩, hps⟩ := h2
      have hu' : P.underlying t = some (.slice e) := by
        unfold uSlice at hu
        split at hu
        · rename_i e' he'; simp at hu; subst hu; exact he'
        · cases hu
      obtain ⟨ie, hie, hsn⟩ := Option.map_eq_some_iff.1 (by simpa [szOf] using hsz)
      unfold okZero at hz
      split at hz
      · rename_i zv hzv
        unfold zeroOf at hzv
        obtain ⟨it, hit, hzi⟩ := Option.bind_eq_some_iff.1 hzv
        rw [hie] at hit
        cases hit
        obtain ⟨hv, _⟩ := okCells_V2 (w := w) (fp := Abs.fp X G) (site := G.site) hz
        have hzz : PRs (Abs.fp X G) w zv.cells.toList z := by obtain ⟨⟨cs, e1, h1⟩, _⟩ := hv; cases e1; exact h1
        have hzs : zv.cells.size = sz := by have := hzz.1; simp at this; omega
        have hrl : ∀ r ∈ List.replicate n z, r.length = sz := fun r hr => by rw [(List.mem_replicate.1 hr).2]; exact hzl
        have h0 : PRs (Abs.fp X G) w ((Array.range (n * sz)).map (zv.cells[· % zv.cells.size]!)).toList (List.replicate n z).flatten := by
          refine ⟨by rw [flat_len hrl]; simp, fun j u p hu hp => ?_⟩
          obtain ⟨i, r, k, g1, g2, rfl⟩ := flat_get hrl hp
          have hr : r = z := (List.mem_replicate.1 (List.mem_of_getElem? g1)).2
          subst hr
          have hk := (List.getElem?_eq_some_iff.1 g2).1
          rw [hzl] at hk
          simp only [Array.toList_map, Array.toList_range, List.getElem?_map, Option.map_eq_some_iff] at hu
          obtain ⟨q, hq, rfl⟩ := hu
          have : q = i * sz + k := by
            obtain ⟨_, hq⟩ := List.getElem?_eq_some_iff.1 hq
            simpa using hq.symm
          subst this
          have e2 : (i * sz + k) % zv.cells.size = k := by
            rw [hzs, Nat.mul_comm, Nat.mul_add_mod, Nat.mod_eq_of_lt hk]
          rw [e2]
          refine hzz.2 k _ p ?_ g2
          rw [getElem!_pos zv.cells k (by omega), Array.getElem?_toList, Array.getElem?_eq_getElem]
        obtain ⟨cs', g1, g2, g3, g4⟩ := fillR_sound hR.opd ps ps'.toList _ rows _ _ hps hfill hc h0 hrl
        rw [List.length_replicate] at g4
        have hrun : (Instr.buildSlice t n (ps'.map fun (i, x) => (i, a.eval x))).run P w = .ok (.slice (some ⟨w.heap.size, 0, none⟩) n n) (w.alloc (.cells cs' e)) := by
          have g1' : Instr.fill (fun i => some (i * ie.size, ie.size)) ((Array.range (n * ie.size)).map (zv.cells[· % zv.cells.size]!)) (ps'.map fun (i, x) => (i, a.eval x)).toList = some cs' := by
            rw [hsn]; simpa using g1
          have hs' : ¬ n * ie.size > 2 ^ 24 := by rw [hsn]; omega
          by_cases h0 : n * ie.size = 0
          · have hn0 : n = 0 := by
              rcases Nat.mul_eq_zero.1 h0 with h | h
              · exact h
              · omega
            subst hn0
            rw [Nat.zero_mul, show Array.range 0 = #[] from rfl, Array.map_empty] at g1'
            have hemp : Array.range 0 = #[] := rfl
            simp at g1'
            simp [Instr.buildSlice, run_underlying hu', sizeOf, typeInfo, zeroValue, hie, hzi, hemp, g1', newRow]
          · exact run_buildSlice w t e n _ cs' ie zv hu' hie hzi hs' h0 g1'
        have hml : rows.length ≤ maxLen := by
          rw [g4]
          have := Nat.le_mul_of_pos_right n hpos
          unfold maxLen
          omega
        obtain ⟨G', hR', hs⟩ := hR.newOwn (d := d) (e := e) (cs := cs') (by rw [hN]; exact hlt) g2 g3 hpos hml
        rw [g4] at hR'
        exact Nxt.value (by simp only [execOp, hop, Sem.run_bind, hrun, Result.andThen_ok]; rfl) (by rw [hd]; exact hR') fun x _ => hs x
      · cases hz
    · cases h2
  · cases he

theorem loadT_none {t : TypeId} (h : okLoadT P t none = true) : isAggT P t = some false := by simp [okLoadT] at h; exact h.1
theorem run_isAgg {t : TypeId} {b : Bool} (h : isAggT P t = some b) (w : World) : (isAgg t).run P w = .ok b w := by
  unfold isAggT at h
  cases hd : P.underlying t with
  | none => simp [hd] at h
  | some d => rw [hd] at h; cases d <;> simp at h <;> subst h <;> simp [isAgg, run_underlying hd]

/-- A site's block. -/
theorem Rel.block (h : Rel X G s a w) {y b : Nat} (hy : G.site y = some b) (hagg : (s (.m y)).isAgg) : ∃ cs e, w.heap[b]? = some (.cells cs e (0, 0)) ∧ VR1 (Abs.fp X G) G.site w (.agg cs) (s (.m y)) (G.own (.m y)) := by
  have hm := h.mem y
  generalize s (.m y) = cc at hm hagg
  cases cc <;> first | exact hagg.elim | skip
  all_goals
    obtain ⟨b', cs, e, h1, h2, h3, _⟩ := hm
    rw [hy] at h1
    cases h1
    exact ⟨cs, e, h2, h3⟩

theorem getc_own {cs : Array Value} {z r : AV} {j : Nat} {ow : Nat → Option (Nat × Nat)} (hz : VR1 fp site w (.agg cs) z ow) (hagg : z.isAgg) (hf : ∀ j g e, ow j = some (g, e) → ∀ o, o < e → fp g o) (hr : getc z j = some r) : ∃ u, cs[j]? = some u ∧ VR0 fp site w u r none := by
  have := hz.dem hf
  have hd : getc z.dem1 j = some r := by
    cases z <;> simp only [AV.isAgg] at hagg
    · exact hr
    · rename_i l
      simp only [getc, AV.dem1, List.getElem?_map, Option.map_map] at hr ⊢
      rw [← hr]
      cases l[j]? with
      | none => rfl
      | some q => cases q <;> rfl
  have hagg' : z.dem1.isAgg := by cases z <;> simp only [AV.isAgg] at hagg <;> trivial
  obtain ⟨cs', u, e1, hu, hv⟩ := V2.getc (VR1_V2 this) hd hagg'
  cases e1
  exact ⟨u, hu, hv⟩

theorem load_agg {cs : Array Value} {z r : AV} {oo k : Nat} {wh : Bool} {ow : Nat → Option (Nat × Nat)} (hz : VR1 fp site w (.agg cs) z ow) (hagg : z.isAgg) (hf : ∀ j g e, ow j = some (g, e) → ∀ o, o < e → fp g o) (hr : loadA z oo (some (k, wh)) = some (c, r)) (hc : c) :
    oo + k ≤ cs.size ∧ V2 fp site w (.agg ((cs.toList.drop oo).take k).toArray) r := by
  have hd := hz.dem hf
  cases z <;> simp only [AV.isAgg] at hagg
  case pagg l =>
    obtain ⟨⟨cs', e, h1⟩, _⟩ := hz
    cases e
    have hl : cs.size = l.length := by simpa using h1.1
    cases wh <;> simp only [loadA, Option.some.injEq, Prod.mk.injEq] at hr <;> obtain ⟨rfl, rfl⟩ := hr
    · exact ⟨by omega, ⟨_, rfl, (h1.drop oo).take k⟩, fun _ => rfl⟩
    · obtain ⟨rfl, rfl⟩ := hc
      refine ⟨by omega, ⟨_, rfl, ?_⟩, fun _ => rfl⟩
      rw [List.drop_zero, ← h1.1, List.take_length]
      exact h1
  case agg l =>
    obtain ⟨⟨cs', e, h1, h2⟩, _⟩ := hd
    cases e
    rw [List.length_map] at h1
    cases wh <;> simp only [loadA, Option.some.injEq, Prod.mk.injEq] at hr <;> obtain ⟨rfl, rfl⟩ := hr
    · refine ⟨by omega, V2.norm ⟨⟨_, rfl, by simp [h1], fun j cc u hj hu => ?_⟩, fun _ _ => rfl⟩⟩
      simp only [List.getElem?_toArray, List.getElem?_map, List.getElem?_take, List.getElem?_drop, Array.getElem?_toList] at hj hu
      split at hu
      · rename_i hjk
        rw [if_pos hjk] at hj
        exact h2 (oo + j) cc u (by rw [List.getElem?_map]; exact hj) hu
      · cases hu
    · obtain ⟨rfl, rfl⟩ := hc
      refine ⟨by omega, V2.norm ⟨⟨_, rfl, by simp [h1], fun j cc u hj hu => ?_⟩, fun _ _ => rfl⟩⟩
      rw [List.drop_zero, ← h1, ← Array.length_toList, List.take_length] at hu
      exact h2 j cc u hj (by simpa using hu)

theorem loadA_isAgg {z : AV} {oo : Nat} {n : Option (Nat × Bool)} {x : Prop × AV} (h : loadA z oo n = some x) : z.isAgg ∨ ∃ l, z = .rp l := by
  cases n with
  | none => cases z <;> simp [loadA, getc, AV.isAgg] at h ⊢
  | some kw => obtain ⟨k, wh⟩ := kw; cases wh <;> cases z <;> simp [loadA, AV.isAgg] at h ⊢

theorem i_load {d : Nat} {n : Option (Nat × Bool)} {st : Option Nat} {x : Opd} (hR : Rel X G s a w) (hN : a.tmps.size = N) (hok : okI P N (.load d n st x) o = true) (he : eff s (.load d n st x) = some (c, U)) (hc : c) : Nxt P X G o a w (s.ups U) mk := by
  simp only [okI, Bool.and_eq_true] at hok
  obtain ⟨h1, h2⟩ := hok
  obtain ⟨hd, hlt⟩ := okDst_spec h1
  split at h2
  · rename_i t y hop
    simp only [Bool.and_eq_true] at h2
    obtain ⟨ht, hx⟩ := h2
    have hv : V2 (Abs.fp X G) G.site w (a.eval y) (ev s x).dem2 := hR.opd _ _ hx
    have fin : ∀ r v, (Instr.loadAt t (a.eval y)).run P w = .ok v w → V2 (Abs.fp X G) G.site w v r → Nxt P X G o a w (s.ups [(.t d, r)]) mk := fun r v hrun hr =>
      Nxt.value (G' := { G with own := clr G.own (.t d) }) (v := v) (by simp only [execOp, hop, Sem.run_bind, hrun, Result.andThen_ok]; rfl) (by rw [hd]; exact hR.put (by rw [hN]; exact hlt) hr) fun _ _ => rfl
    simp only [eff] at he
    split at he
    · rename_i yy oo hev
      rw [hev] at hv
      obtain ⟨b, hb, hav⟩ := hv.ptr
      split at he
      · split at he
        · rename_i c' r hl
          cases he
          have hm := hR.mem yy
          have hagg : (s (.m yy)).isAgg := by
            rcases loadA_isAgg hl with q | ⟨l, q⟩
            · exact q
            · rw [q] at hm
              obtain ⟨_, _, _, _, _, _, q⟩ := hm
              exact q.elim
          obtain ⟨cs, e, hblk, hz⟩ := hR.block hb hagg
          have hf := fun j g e (he : G.own (.m yy) j = some (g, e)) o (ho : o < e) => hR.ownfp he ho
          cases n with
          | none =>
            simp only [loadA, Option.map_eq_some_iff, Prod.mk.injEq] at hl
            obtain ⟨r', hl, _, rfl⟩ := hl
            obtain ⟨u, hu, hr⟩ := getc_own hz hagg hf hl
            refine fin _ u ?_ (V2.of0 hr)
            have hcell : w.cell? ⟨b, oo, none⟩ = some u := by rw [cell_of_heap hblk]; exact hu
            simp [Instr.loadAt, hav, Instr.sureAddr, loadVar, run_isAgg (loadT_none ht), hcell]
          | some kw =>
            obtain ⟨k, wh⟩ := kw
            obtain ⟨q1, q2⟩ := load_agg hz hagg hf hl hc
            refine fin _ _ ?_ q2
            simp only [okLoadT, Bool.and_eq_true, decide_eq_true_eq, szOf] at ht
            obtain ⟨i, hi, hk⟩ := Option.map_eq_some_iff.1 ht.2
            have hlist := run_loadCells_list (P := P) w ⟨b, oo, none⟩ ((cs.toList.drop oo).take k) fun j u hu => by
              rw [Addr.add_mid, cell_of_heap hblk]
              simp only [List.getElem?_take, List.getElem?_drop, Array.getElem?_toList] at hu
              split at hu
              · exact hu
              · cases hu
            have hlen : ((cs.toList.drop oo).take k).length = k := by simp; omega
            rw [hlen] at hlist
            simp [Instr.loadAt, hav, Instr.sureAddr, loadVar, run_isAgg ht.1, sizeOf, typeInfo, hi, hk, hlist]
        · cases he
      · cases he
    · rename_i l hev
      rw [hev] at hv
      obtain ⟨b, oo, hav, hcell⟩ := hv.rp
      split at he
      · rename_i c' r hl
        cases he
        cases n with
        | none =>
          simp only [loadA, getc, Option.map_eq_some_iff, Prod.mk.injEq] at hl
          obtain ⟨r', ⟨p, hp, rfl⟩, _, rfl⟩ := hl
          obtain ⟨_, u, hu, hpr⟩ := hcell 0 p hp
          refine fin _ u ?_ (V2.mkpv hpr)
          simp only [Nat.add_zero] at hu
          simp [Instr.loadAt, hav, Instr.sureAddr, loadVar, run_isAgg (loadT_none ht), hu]
        | some kw =>
          obtain ⟨k, wh⟩ := kw
          have hl2 : k ≤ l.length ∧ r = .pagg (l.take k) := by
            cases wh <;> simp only [loadA, Option.some.injEq, Prod.mk.injEq] at hl <;> obtain ⟨rfl, rfl⟩ := hl
            · exact ⟨by omega, by simp⟩
            · obtain ⟨_, rfl⟩ := hc; exact ⟨Nat.le_refl _, by rw [List.take_length]⟩
          obtain ⟨hk, rfl⟩ := hl2
          classical
          have hg : ∀ j p, (l.take k)[j]? = some p → ∃ u, w.cell? ⟨b, oo + j, none⟩ = some u ∧ PR (Abs.fp X G) w u p := fun j p hp => by
            rw [List.getElem?_take] at hp
            split at hp
            · obtain ⟨_, u, hu, hpr⟩ := hcell j p hp; exact ⟨u, hu, hpr⟩
            · cases hp
          have hkl : (l.take k).length = k := by simp; omega
          have hvs : ∀ j u, ((List.range k).map fun j => (w.cell? ⟨b, oo + j, none⟩).getD Go.undef)[j]? = some u → j < k ∧ u = (w.cell? ⟨b, oo + j, none⟩).getD Go.undef := fun j u hu => by
            rw [List.getElem?_map, Option.map_eq_some_iff] at hu
            obtain ⟨q, hq, rfl⟩ := hu
            obtain ⟨h1, h2⟩ := List.getElem?_eq_some_iff.1 hq
            simp at h1 h2
            subst h2
            exact ⟨h1, rfl⟩
          simp only [okLoadT, Bool.and_eq_true, decide_eq_true_eq, szOf] at ht
          obtain ⟨i, hi, hki⟩ := Option.map_eq_some_iff.1 ht.2
          have hlist := run_loadCells_list (P := P) w ⟨b, oo, none⟩ ((List.range k).map fun j => (w.cell? ⟨b, oo + j, none⟩).getD Go.undef) fun j u hu => by
            rw [Addr.add_mid]
            obtain ⟨hj, rfl⟩ := hvs j u hu
            obtain ⟨u, hu, _⟩ := hg j _ (List.getElem?_eq_getElem (by omega))
            simp [hu]
          have hlen : ((List.range k).map fun j => (w.cell? ⟨b, oo + j, none⟩).getD Go.undef).length = k := by simp
          rw [hlen] at hlist
          refine fin _ (.agg ((List.range k).map fun j => (w.cell? ⟨b, oo + j, none⟩).getD Go.undef).toArray) (by simp only [Instr.loadAt, hav, Instr.sureAddr, loadVar, Sem.run_bind, Sem.run_pure, Result.andThen_ok, run_isAgg ht.1, if_true, sizeOf, typeInfo]; simp [hi, hki, hlist]) ⟨⟨_, rfl, by rw [hkl]; simp, fun j u p hu hp => ?_⟩, fun _ => rfl⟩
          obtain ⟨hj, rfl⟩ := hvs j u (by simpa using hu)
          obtain ⟨u, hu', hpr⟩ := hg j p hp
          simpa [hu'] using hpr
      · cases he
    · cases he
  · cases h2
end
end Go.Abs
end

section
/- The abstract machine's operations on memory answer as the model's do: stores, moves out of and into variables, appends. No condition. -/
namespace Go.Abs
open Go.RowKit

section
variable {P : Program} {X : Ctx} {G G' : Gh} {s s' : S} {a : Act} {w w' : World} {o : Oper} {c : Prop} {U : List (Key × AV)} {v : Value} {N : Nat} {mk : List Nat}
variable {fp : Nat → Nat → Prop} {site : Nat → Option Nat}

/-- A variable is written. -/
theorem run_store {t : TypeId} {b oo k : Nat} {vs : List Value} {u : Value} {cs : Array Value} {e : TypeId} (hblk : w.heap[b]? = some (.cells cs e (0, 0))) (hu : u.cells.toList = vs) (hk : vs.length = k) (hsz : szOf P t k = true) (hfit : oo + k ≤ cs.size) (h1 : ∀ x ∈ vs, x.oneCell' = true) :
    (Instr.storeAt t (.pointer (some ⟨b, oo, none⟩)) u).run P w = .ok () (w.setRow b (cs.toList.take oo ++ vs ++ cs.toList.drop (oo + vs.length)).toArray) := by
  have := run_storeCells_at P b oo e vs 0 cs w hblk (by omega) h1
  simp only [szOf, decide_eq_true_eq] at hsz
  obtain ⟨i, hi, hn⟩ := Option.map_eq_some_iff.1 hsz
  have hcs : u.cells.size = k := by rw [← hk, ← hu]; simp
  simp only [Instr.storeAt, Instr.sureAddr, storeVar, Sem.run_bind, Sem.run_pure, Result.andThen_ok, sizeOf, typeInfo]
  simp [hi, hn, hcs, hu, this]

def owR (own : Key → Nat → Option (Nat × Nat)) (y : Nat) (f : Nat → Option (Nat × Nat)) : Key → Nat → Option (Nat × Nat) := fun k j => if k = .m y then f j else own k j

/-- A store that moves nothing. -/
theorem Rel.storeSite (h : Rel X G s a w) {y b : Nat} (hy : G.site y = some b) {cs cs' : Array Value} {e : TypeId} (hb : w.heap[b]? = some (.cells cs e (0, 0))) {r : AV} (f : Nat → Option (Nat × Nat)) (hf : ∀ j be, f j = some be → G.own (.m y) j = some be)
    (hc : VR1 (Abs.fp X G) G.site w (.agg cs') r f) (hagg : r.isAgg) : Rel X { G with own := owR G.own y f } (s.up (.m y) r) a (w.setRow b cs') := by
  have hsub : ∀ k j be, owR G.own y f k j = some be → G.own k j = some be := fun k j be hk => by
    unfold owR at hk
    split at hk
    · rename_i hky; subst hky; exact hf j be hk
    · exact hk
  refine h.setSite hy hb (owR G.own y f) (fun k j be hk => ⟨k, j, hsub k j be hk⟩) (fun k j k' j' b e e' h1 h2 => h.ownI _ _ _ _ _ _ _ (hsub _ _ _ h1) (hsub _ _ _ h2)) (fun t => ?_) (fun x hx => ?_) ?_ ?_ h.df
  · rw [S.up_other _ _ (by simp)]
    have e1 : owR G.own y f (.t t) = G.own (.t t) := by funext j; simp [owR]
    rw [e1]
    exact h.tmp t
  · rw [S.up_other _ _ (by simp [hx])]
    have e1 : owR G.own y f (.m x) = G.own (.m x) := by funext j; simp [owR, hx]
    rw [e1]
    exact h.mem x
  · rw [S.up_same]
    have e1 : owR G.own y f (.m y) = f := by funext j; simp [owR]
    rw [e1]
    exact hc
  · rw [S.up_same]; exact hagg

theorem agg_one {lv : List AV} {vs : Array Value} (hv : V2 fp site w (.agg vs) (.agg lv)) (hst : lv.all AV.storable = true) : ∀ x ∈ vs.toList, x.oneCell' = true := by
  obtain ⟨⟨vs', e, h1, h2⟩, _⟩ := hv
  cases e
  intro x hx
  obtain ⟨j, hj⟩ := List.getElem?_of_mem hx
  have hjl : j < lv.length := by rw [← h1, ← Array.length_toList]; exact (List.getElem?_eq_some_iff.1 hj).1
  have := h2 j _ x (List.getElem?_eq_getElem hjl) (by simpa using hj)
  exact (this.one (List.all_eq_true.1 hst _ (List.getElem_mem hjl))).1

theorem putA_isAgg {z v r : AV} {oo : Nat} (h : putA z oo v = some (c, r)) : z.isAgg := by
  cases z <;> first | trivial | simp [putA] at h

theorem storeA_isAgg {z v r : AV} {oo : Nat} {n : Option (Nat × Bool)} (h : storeA z oo v n = some (c, r)) : z.isAgg := by
  cases n with
  | none =>
    simp only [storeA] at h
    split at h
    · exact putA_isAgg h
    · cases h
  | some kw =>
    obtain ⟨k, wh⟩ := kw
    cases wh
    · cases v <;> simp only [storeA, Option.map_eq_some_iff, reduceCtorEq] at h
      · obtain ⟨⟨c', r'⟩, h, _⟩ := h; exact putA_isAgg h
      · obtain ⟨⟨c', r'⟩, h, _⟩ := h; exact putA_isAgg h
    · cases z <;> first | trivial | (cases v <;> simp [storeA] at h)

/-- What a store leaves of a variable's cells. -/
theorem storeA_sound {z v0 r : AV} {oo : Nat} {n : Option (Nat × Bool)} {cs : Array Value} {ow : Nat → Option (Nat × Nat)} {u : Value} {t : TypeId} (hz : VR1 fp site w (.agg cs) z ow) (hw : V2 fp site w u v0) (ht : okLoadT P t n = true) (hs : storeA z oo v0 n = some (c, r)) (hc : c) :
    ∃ k, u.cells.size = k ∧ szOf P t k = true ∧ oo + k ≤ cs.size ∧ (∀ x ∈ u.cells.toList, x.oneCell' = true) ∧ ∃ f, (∀ j be, f j = some be → ow j = some be) ∧ VR1 fp site w (.agg (spl cs oo u.cells)) r f ∧ r.isAgg := by
  have hagg := storeA_isAgg hs
  cases n with
  | none =>
    simp only [storeA] at hs
    split at hs
    · rename_i hst
      have hv0 := V2_VR0 hw hst
      obtain ⟨h1, h2⟩ := hv0.one hst
      obtain ⟨q1, q2, q3⟩ := put0 hz hagg hv0 hst hs hc
      simp only [okLoadT, Bool.and_eq_true] at ht
      rw [h2]
      refine ⟨1, rfl, ht.2, q1, by simpa using h1, _, fun j be hj => ?_, by rw [spl_one q1]; exact q2, q3⟩
      unfold ow1 at hj
      split at hj
      · cases hj
      · exact hj
    · cases hs
  | some kw =>
    obtain ⟨k, wh⟩ := kw
    simp only [okLoadT, Bool.and_eq_true] at ht
    have hva : v0.isAgg := by cases wh <;> cases v0 <;> first | trivial | (simp [storeA] at hs; done) | (cases z <;> simp [storeA] at hs)
    have hw1 := V2_VR1 hw hva
    obtain ⟨vs, rfl⟩ : ∃ vs, u = .agg vs := by
      cases v0 <;> simp only [AV.isAgg] at hva
      · obtain ⟨⟨vs, rfl, _⟩, _⟩ := hw1; exact ⟨vs, rfl⟩
      · obtain ⟨⟨vs, rfl, _⟩, _⟩ := hw1; exact ⟨vs, rfl⟩
    have hvs : vs.size = avSize v0 := by
      cases v0 <;> simp only [AV.isAgg] at hva
      · obtain ⟨⟨vs', e, h1⟩, _⟩ := hw1; cases e; simpa [avSize] using h1.1
      · obtain ⟨⟨vs', e, h1, _⟩, _⟩ := hw1; cases e; exact h1
    have hzs : cs.size = avSize z := by
      cases z <;> simp only [AV.isAgg] at hagg
      · obtain ⟨⟨vs', e, h1⟩, _⟩ := hz; cases e; simpa [avSize] using h1.1
      · obtain ⟨⟨vs', e, h1, _⟩, _⟩ := hz; cases e; exact h1
    have hone : (∀ lv, v0 = .agg lv → lv.all AV.storable = true) → ∀ x ∈ vs.toList, x.oneCell' = true := fun hh => by
      cases v0 <;> simp only [AV.isAgg] at hva
      · obtain ⟨⟨vs', e, h1⟩, _⟩ := hw1; cases e; exact h1.one
      · exact agg_one hw (hh _ rfl)
    cases wh
    · have hp : ∃ c', putA z oo v0 = some (c', r) ∧ c' ∧ avSize v0 = k := by
        cases v0 <;> simp only [AV.isAgg] at hva <;> simp only [storeA, Option.map_eq_some_iff, Prod.mk.injEq] at hs
        all_goals
          obtain ⟨⟨c', r'⟩, h1, h2, h3⟩ := hs
          dsimp only at h3 h2
          subst h3
          subst h2
          exact ⟨c', h1, hc.2, hc.1⟩
      obtain ⟨c', hp, hc', hk⟩ := hp
      obtain ⟨q1, q2, q3, q4⟩ := putN hz hagg hw1 hva hp hc'
      refine ⟨k, by rw [← hk]; exact hvs, ht.2, by omega, hone fun lv hlv => ?_, _, fun j be hj => ?_, q2, q3⟩
      · subst hlv
        cases z <;> simp only [AV.isAgg] at hagg <;> simp only [putA, Option.some.injEq, Prod.mk.injEq] at hp <;> obtain ⟨rfl, rfl⟩ := hp <;> exact hc'.2
      · unfold owN at hj
        split at hj
        · cases hj
        · exact hj
    · have hfin : oo = 0 ∧ avSize v0 = k ∧ avSize z = k ∧ r = v0 ∧ ∀ lv, v0 = .agg lv → lv.all AV.storable = true := by
        cases z <;> simp only [AV.isAgg] at hagg <;> cases v0 <;> simp only [AV.isAgg] at hva <;> simp only [storeA, Option.some.injEq, Prod.mk.injEq] at hs <;> obtain ⟨rfl, rfl⟩ := hs
        · exact ⟨hc.1, hc.2.1, hc.2.2, rfl, fun lv h => by cases h⟩
        · exact ⟨hc.1, hc.2.1, hc.2.2.1, rfl, fun lv h => by cases h; exact hc.2.2.2⟩
        · exact ⟨hc.1, hc.2.1, hc.2.2, rfl, fun lv h => by cases h⟩
        · exact ⟨hc.1, hc.2.1, hc.2.2.1, rfl, fun lv h => by cases h; exact hc.2.2.2⟩
      obtain ⟨rfl, hk, hk2, rfl, hall⟩ := hfin
      refine ⟨k, by rw [← hk]; exact hvs, ht.2, by omega, hone hall, fun _ => none, fun j be hj => (by cases hj), ?_, hva⟩
      have e1 : spl cs 0 (Value.agg vs).cells = vs := by
        simp only [spl, List.take_zero, List.nil_append, Nat.zero_add, Value.cells]
        rw [List.drop_of_length_le (by simp; omega), List.append_nil]
      rw [e1]
      exact hw1

theorem i_store {n : Option (Nat × Bool)} {st : Option Nat} {x v : Opd} (hR : Rel X G s a w) (hok : okI P N (.store n st x v) o = true) (he : eff s (.store n st x v) = some (c, U)) (hc : c) : Nxt P X G o a w (s.ups U) mk := by
  simp only [okI, Bool.and_eq_true, decide_eq_true_eq] at hok
  obtain ⟨hd, h2⟩ := hok
  split at h2
  · rename_i t y u hop
    simp only [Bool.and_eq_true] at h2
    obtain ⟨⟨ht, hx⟩, hu⟩ := h2
    have hv : V2 (Abs.fp X G) G.site w (a.eval y) (ev s x).dem2 := hR.opd _ _ hx
    have hw : V2 (Abs.fp X G) G.site w (a.eval u) (ev s v).dem2 := hR.opd _ _ hu
    simp only [eff] at he
    split at he
    · rename_i yy oo hev
      rw [hev] at hv
      obtain ⟨b, hb, hav⟩ := hv.ptr
      split at he
      · split at he
        · rename_i c' r hl
          cases he
          obtain ⟨cs, e, hblk, hz⟩ := hR.block hb (storeA_isAgg hl)
          obtain ⟨k, h1, h3, h4, h5, f, h6, h7, h8⟩ := storeA_sound hz hw ht hl hc
          have hrun := run_store (P := P) (u := a.eval u) hblk rfl (by simpa using h1) h3 h4 h5
          have e1 : (cs.toList.take oo ++ (a.eval u).cells.toList ++ cs.toList.drop (oo + (a.eval u).cells.toList.length)).toArray = spl cs oo (a.eval u).cells := by simp [spl]
          rw [e1] at hrun
          exact Nxt.skip (G' := { G with own := owR G.own yy f }) (by simp only [execOp, hop, hav, Sem.run_bind, hrun, Result.andThen_ok]; rfl) hd (hR.storeSite hb hblk f h6 h7 h8) fun _ _ => rfl
        · cases he
      · cases he
    · cases he
  · cases h2

theorem os_one {e sz : Nat} {es : List (List PV)} {ow : Option (Nat × Nat)} (h : OSR fp w v e sz es ow) : v.oneCell' = true ∧ v.cells = #[v] := by
  obtain ⟨xs, h1, _⟩ := h
  rcases h1.2 with ⟨rfl, _⟩ | ⟨g, cap, cur, rfl, _⟩ <;> exact ⟨rfl, rfl⟩

def mvTM (own : Key → Nat → Option (Nat × Nat)) (n y oo : Nat) : Key → Nat → Option (Nat × Nat) := fun k j => if k = .m y ∧ j = oo then own (.t n) 0 else if k = .t n then none else own k j
def mvMT (own : Key → Nat → Option (Nat × Nat)) (y oo d : Nat) : Key → Nat → Option (Nat × Nat) := fun k j => if k = .t d then (if j = 0 then own (.m y) oo else none) else if k = .m y ∧ j = oo then none else own k j

theorem i_storemv {st : Option Nat} {x : Opd} {n : Nat} (hR : Rel X G s a w) (hok : okI P N (.storemv st x n) o = true) (he : eff s (.storemv st x n) = some (c, U)) (hc : c) : Nxt P X G o a w (s.ups U) mk := by
  simp only [okI, Bool.and_eq_true, decide_eq_true_eq] at hok
  obtain ⟨hd, h2⟩ := hok
  split at h2
  · rename_i t y m hop
    simp only [Bool.and_eq_true, beq_iff_eq] at h2
    obtain ⟨⟨ht, hx⟩, rfl⟩ := h2
    have hv : V2 (Abs.fp X G) G.site w (a.eval y) (ev s x).dem2 := hR.opd _ _ hx
    simp only [eff] at he
    split at he
    · rename_i yy oo hev
      rw [hev] at hv
      obtain ⟨b, hb, hav⟩ := hv.ptr
      split at he
      · split at he
        · rename_i e sz es hsn
          have htn := hR.tmp m
          rw [hsn] at htn
          obtain ⟨hos, hos2⟩ := htn
          have hone := os_one hos
          have key : ∀ (l : List AV) (z : AV), s (.m yy) = z → z.isAgg → putA z oo (.os e sz es) = some (oo < l.length, .agg (l.set oo (.os e sz es))) → oo < l.length →
              Nxt P X G o a w (s.ups [(.t m, .pv (.sl sz es)), (.m yy, .agg (l.set oo (.os e sz es)))]) mk := by
            intro l z hz hagg hput hlt
            obtain ⟨cs, et, hblk, hzv⟩ := hR.block hb (by rw [hz]; exact hagg)
            rw [hz] at hzv
            obtain ⟨q1, q2, q3⟩ := put0 (ov := G.own (.t m) 0) hzv hagg (v0 := .os e sz es) hos rfl hput hlt
            simp only [okLoadT, Bool.and_eq_true] at ht
            have hev : a.eval (.tmp m) = a.tmps.getD m Go.undef := rfl
            have hrun := run_store (P := P) (t := t) (u := a.eval (.tmp m)) (vs := [a.tmps.getD m Go.undef]) (k := 1) (oo := oo) hblk (by rw [hev, hone.2]) rfl ht.2 q1 (by simpa using hone.1)
            have e1 : (cs.toList.take oo ++ [a.tmps.getD m Go.undef] ++ cs.toList.drop (oo + [a.tmps.getD m Go.undef].length)).toArray = cs.setIfInBounds oo (a.tmps.getD m Go.undef) := by rw [← spl_one q1]; simp [spl]
            rw [e1] at hrun
            refine Nxt.skip (G' := { G with own := mvTM G.own m yy oo }) (by simp only [execOp, hop, hav, Sem.run_bind, hrun, Result.andThen_ok]; rfl) hd (hR.setSite hb hblk _ (fun k j be hk => ?_) (fun k j k' j' b1 e2 e3 h1 h2 => ?_) (fun t => ?_) (fun x hx => ?_) ?_ ?_ hR.df) fun _ _ => rfl
            · unfold mvTM at hk
              split at hk
              · exact ⟨_, _, hk⟩
              · split at hk
                · cases hk
                · exact ⟨_, _, hk⟩
            · unfold mvTM at h1 h2
              split at h1
              · rename_i p1
                split at h2
                · rename_i p2
                  exact ⟨p1.1.trans p2.1.symm, p1.2.trans p2.2.symm⟩
                · split at h2
                  · cases h2
                  · rename_i p2 p3
                    exact absurd (hR.ownI _ _ _ _ _ _ _ h1 h2).1.symm p3
              · split at h1
                · cases h1
                · rename_i p1 p3
                  split at h2
                  · exact absurd (hR.ownI _ _ _ _ _ _ _ h1 h2).1 p3
                  · split at h2
                    · cases h2
                    · exact hR.ownI _ _ _ _ _ _ _ h1 h2
            · simp only [S.ups]
              rw [S.up_other _ _ (by simp)]
              by_cases htm : t = m
              · subst htm
                rw [S.up_same]
                have e2 : mvTM G.own t yy oo (.t t) = fun _ => none := by funext j; simp [mvTM]
                rw [e2]
                exact V2.of0 (VR0.dem (a := .os e sz es) hos fun g e he o ho => hR.ownfp he ho)
              · rw [S.up_other _ _ (by simp [htm])]
                have e2 : mvTM G.own m yy oo (.t t) = G.own (.t t) := by funext j; simp [mvTM, htm]
                rw [e2]
                exact hR.tmp t
            · simp only [S.ups]
              rw [S.up_other _ _ (by simp [hx]), S.up_other _ _ (by simp)]
              have e2 : mvTM G.own m yy oo (.m x) = G.own (.m x) := by funext j; simp [mvTM, hx]
              rw [e2]
              exact hR.mem x
            · simp only [S.ups]
              rw [S.up_same]
              have e2 : mvTM G.own m yy oo (.m yy) = ow1 (G.own (.m yy)) oo (G.own (.t m) 0) := by funext j; simp [mvTM, ow1]
              rw [e2]
              exact q2
            · simp only [S.ups]
              rw [S.up_same]
              trivial
          split at he
          · rename_i l hz
            cases he
            have := key (l.map AV.pv) _ hz trivial (by simp [putA, AV.storable]) (by simpa using hc)
            simpa using this
          · rename_i l hz
            cases he
            exact key l _ hz trivial (by simp [putA, AV.storable]) hc
          · cases he
        · cases he
      · cases he
    · cases he
  · cases h2

def mvTA (own : Key → Nat → Option (Nat × Nat)) (n y : Nat) : Key → Nat → Option (Nat × Nat) := fun k j => if k = .m y then own (.t n) j else if k = .t n then none else own k j
theorem storable_dem {l : List AV} (h : l.all AV.storable = true) : (l.map AV.dem0).all AV.storable = true := by
  rw [List.all_map]
  rw [List.all_eq_true] at h ⊢
  intro a ha
  have := h a ha
  cases a <;> first | rfl | (simp [AV.storable] at this)
theorem i_storemva {k : Nat} {st : Option Nat} {x : Opd} {n : Nat} (hR : Rel X G s a w) (hok : okI P N (.storemva k st x n) o = true) (he : eff s (.storemva k st x n) = some (c, U)) (hc : c) : Nxt P X G o a w (s.ups U) mk := by
  simp only [okI, Bool.and_eq_true, decide_eq_true_eq] at hok
  obtain ⟨hd, h2⟩ := hok
  split at h2
  · rename_i t y m hop
    simp only [Bool.and_eq_true, beq_iff_eq] at h2
    obtain ⟨⟨ht, hx⟩, rfl⟩ := h2
    have hv : V2 (Abs.fp X G) G.site w (a.eval y) (ev s x).dem2 := hR.opd _ _ hx
    have hw : V2 (Abs.fp X G) G.site w (a.eval (.tmp m)) (s (.t m)).dem2 := hR.opd (.t m) (.tmp m) (by simp [okX])
    simp only [eff] at he
    split at he
    · rename_i yy oo hev
      rw [hev] at hv
      obtain ⟨b, hb, hav⟩ := hv.ptr
      split at he
      · split at he
        · rename_i l hsn
          have htn := hR.tmp m
          rw [hsn] at htn
          rw [hsn] at hw
          have hwn : V2 (Abs.fp X G) G.site w (a.eval (.tmp m)) (.agg (l.map AV.dem0)) := hw
          have hvs0 := htn
          obtain ⟨⟨vs, hvs, hsz, hcells⟩, hbnd⟩ := htn
          have hevm : a.eval (.tmp m) = .agg vs := hvs
          have key : (s (.m yy)).isAgg → avSize (s (.m yy)) = k → oo = 0 ∧ l.length = k ∧ l.all AV.storable = true →
              Nxt P X G o a w (s.ups [(.t m, .agg (l.map AV.dem0)), (.m yy, .agg l)]) mk := by
            intro hagg hzk hcc
            obtain ⟨rfl, hlk, hall⟩ := hcc
            obtain ⟨cs, et, hblk, hzv⟩ := hR.block hb hagg
            have hzs : cs.size = k := by
              rw [← hzk]
              cases hz : s (.m yy) <;> rw [hz] at hagg hzv <;> simp only [AV.isAgg] at hagg
              · obtain ⟨⟨vs', e, h1⟩, _⟩ := hzv; cases e; simpa [avSize] using h1.1
              · obtain ⟨⟨vs', e, h1, _⟩, _⟩ := hzv; cases e; exact h1
            have hone : ∀ x ∈ vs.toList, x.oneCell' = true := agg_one (hevm ▸ hwn) (storable_dem hall)
            simp only [okLoadT, Bool.and_eq_true] at ht
            have hrun := run_store (P := P) (t := t) (u := a.eval (.tmp m)) (vs := vs.toList) (k := k) (oo := 0) hblk (by rw [hevm]; rfl) (by simp [hsz, hlk]) ht.2 (by omega) hone
            have e1 : (cs.toList.take 0 ++ vs.toList ++ cs.toList.drop (0 + vs.toList.length)).toArray = vs := by
              rw [List.drop_of_length_le (by simp; omega)]
              simp
            rw [e1] at hrun
            refine Nxt.skip (G' := { G with own := mvTA G.own m yy }) (by simp only [execOp, hop, hav, Sem.run_bind, hrun, Result.andThen_ok]; rfl) hd (hR.setSite hb hblk _ (fun k j be hk => ?_) (fun k j k' j' b1 e2 e3 h1 h2 => ?_) (fun t => ?_) (fun x hx => ?_) ?_ ?_ hR.df) fun _ _ => rfl
            · unfold mvTA at hk
              split at hk
              · exact ⟨_, _, hk⟩
              · split at hk
                · cases hk
                · exact ⟨_, _, hk⟩
            · unfold mvTA at h1 h2
              split at h1
              · rename_i p1
                split at h2
                · rename_i p2
                  exact ⟨p1.trans p2.symm, (hR.ownI _ _ _ _ _ _ _ h1 h2).2⟩
                · split at h2
                  · cases h2
                  · rename_i p2 p3
                    exact absurd (hR.ownI _ _ _ _ _ _ _ h1 h2).1.symm p3
              · split at h1
                · cases h1
                · rename_i p1 p3
                  split at h2
                  · exact absurd (hR.ownI _ _ _ _ _ _ _ h1 h2).1 p3
                  · split at h2
                    · cases h2
                    · exact hR.ownI _ _ _ _ _ _ _ h1 h2
            · simp only [S.ups]
              rw [S.up_other _ _ (by simp)]
              by_cases htm : t = m
              · subst htm
                rw [S.up_same]
                have e2 : mvTA G.own t yy (.t t) = fun _ => none := by funext j; simp [mvTA]
                rw [e2]
                exact hwn
              · rw [S.up_other _ _ (by simp [htm])]
                have e2 : mvTA G.own m yy (.t t) = G.own (.t t) := by funext j; simp [mvTA, htm]
                rw [e2]
                exact hR.tmp t
            · simp only [S.ups]
              rw [S.up_other _ _ (by simp [hx]), S.up_other _ _ (by simp)]
              have e2 : mvTA G.own m yy (.m x) = G.own (.m x) := by funext j; simp [mvTA, hx]
              rw [e2]
              exact hR.mem x
            · simp only [S.ups]
              rw [S.up_same]
              have e2 : mvTA G.own m yy (.m yy) = G.own (.t m) := by funext j; simp [mvTA]
              rw [e2]
              exact ⟨⟨vs, rfl, hsz, hcells⟩, hbnd⟩
            · simp only [S.ups]
              rw [S.up_same]
              trivial
          split at he
          · rename_i l' hz
            cases he
            exact key (by rw [hz]; trivial) (by rw [hz]; exact hc.2.2.1) ⟨hc.1, hc.2.1, hc.2.2.2⟩
          · rename_i l' hz
            cases he
            exact key (by rw [hz]; trivial) (by rw [hz]; exact hc.2.2.1) ⟨hc.1, hc.2.1, hc.2.2.2⟩
          · cases he
        · cases he
      · cases he
    · cases he
  · cases h2

theorem i_loadmv {d : Nat} {st : Option Nat} {x : Opd} (hR : Rel X G s a w) (hN : a.tmps.size = N) (hok : okI P N (.loadmv d st x) o = true) (he : eff s (.loadmv d st x) = some (c, U)) (hc : c) : Nxt P X G o a w (s.ups U) mk := by
  simp only [okI, Bool.and_eq_true] at hok
  obtain ⟨h1, h2⟩ := hok
  obtain ⟨hd, hlt⟩ := okDst_spec h1
  split at h2
  · rename_i t y hop
    simp only [Bool.and_eq_true] at h2
    obtain ⟨ht, hx⟩ := h2
    have hv : V2 (Abs.fp X G) G.site w (a.eval y) (ev s x).dem2 := hR.opd _ _ hx
    simp only [eff] at he
    split at he
    · rename_i yy oo hev
      rw [hev] at hv
      obtain ⟨b, hb, hav⟩ := hv.ptr
      split at he
      · split at he
        · rename_i l hz
          split at he
          · rename_i e sz es hl
            cases he
            obtain ⟨cs, et, hblk, hzv⟩ := hR.block hb (by rw [hz]; trivial)
            rw [hz] at hzv
            have hzv0 := hzv
            obtain ⟨⟨cs', e1, h3, h4⟩, h5⟩ := hzv
            cases e1
            have hlt2 : oo < cs.size := by rw [h3]; exact (List.getElem?_eq_some_iff.1 hl).1
            have hu := h4 oo _ cs[oo] hl (Array.getElem?_eq_getElem hlt2)
            have hcell : w.cell? ⟨b, oo, none⟩ = some cs[oo] := by rw [cell_of_heap hblk, Array.getElem?_eq_getElem hlt2]
            have hrun : (Instr.loadAt t (a.eval y)).run P w = .ok cs[oo] w := by
              generalize cs[oo] = u at hcell
              simp [hav, Instr.loadAt, Instr.sureAddr, loadVar, run_isAgg (loadT_none ht), hcell]
            refine Nxt.value (G' := { G with own := mvMT G.own yy oo d }) (v := cs[oo]) (by simp only [execOp, hop, Sem.run_bind, hrun, Result.andThen_ok]; rfl) ?_ fun _ _ => rfl
            rw [hd]
            refine hR.same _ (fun k j be hk => ?_) (fun k j k' j' b1 e2 e3 g1 g2 => ?_) (fun t => ?_) (fun x => ?_) ((put_defers _ _ _).trans hR.df)
            · unfold mvMT at hk
              split at hk
              · split at hk
                · exact ⟨_, _, hk⟩
                · cases hk
              · split at hk
                · cases hk
                · exact ⟨_, _, hk⟩
            · have key : ∀ k j e, mvMT G.own yy oo d k j = some (b1, e) → (k = .t d ∧ j = 0 ∧ G.own (.m yy) oo = some (b1, e)) ∨ (k ≠ .t d ∧ ¬ (k = .m yy ∧ j = oo) ∧ G.own k j = some (b1, e)) := fun k j e hk => by
                unfold mvMT at hk
                split at hk
                · split at hk
                  · exact Or.inl ⟨by assumption, by assumption, hk⟩
                  · cases hk
                · split at hk
                  · cases hk
                  · exact Or.inr ⟨by assumption, by assumption, hk⟩
              rcases key _ _ _ g1 with ⟨r1, r2, r3⟩ | ⟨r1, r2, r3⟩ <;> rcases key _ _ _ g2 with ⟨p1, p2, p3⟩ | ⟨p1, p2, p3⟩
              · exact ⟨r1.trans p1.symm, r2.trans p2.symm⟩
              · have := hR.ownI _ _ _ _ _ _ _ r3 p3; exact absurd ⟨this.1.symm, this.2.symm⟩ p2
              · have := hR.ownI _ _ _ _ _ _ _ r3 p3; exact absurd ⟨this.1, this.2⟩ r2
              · exact hR.ownI _ _ _ _ _ _ _ r3 p3
            · simp only [S.ups]
              by_cases htd : t = d
              · subst htd
                rw [getD_put_same (by rw [hN]; exact hlt), S.up_same]
                have e2 : mvMT G.own yy oo t (.t t) = at0 (G.own (.m yy) oo) := by funext j; simp [mvMT, at0]
                rw [e2]
                exact ⟨hu, fun j hj => by simp [at0, show j ≠ 0 by omega]⟩
              · rw [getD_put_other htd, S.up_other _ _ (by simp [htd]), S.up_other _ _ (by simp)]
                have e2 : mvMT G.own yy oo d (.t t) = G.own (.t t) := by funext j; simp [mvMT, htd]
                rw [e2]
                exact hR.tmp t
            · simp only [S.ups]
              rw [S.up_other _ _ (by simp)]
              by_cases hxy : x = yy
              · subst hxy
                rw [S.up_same]
                have e2 : mvMT G.own x oo d (.m x) = ow1 (G.own (.m x)) oo none := by funext j; simp [mvMT, ow1]
                rw [e2]
                have hlt3 : oo < l.length := by omega
                obtain ⟨q1, q2, q3⟩ := put0 (o := oo) (ov := none) (c := oo < l.length) (r := .agg (l.set oo (.pv (.sl sz es)))) hzv0 trivial (v0 := .pv (.sl sz es)) (u := cs[oo]) (VR0.dem (a := .os e sz es) hu fun g e he o ho => hR.ownfp he ho) rfl (by simp [putA, AV.storable]) hlt3
                have e3 : cs.setIfInBounds oo cs[oo] = cs := by
                  apply Array.ext_getElem?
                  intro j
                  rw [Array.getElem?_setIfInBounds]
                  split
                  · rename_i hj; subst hj; simp [hlt2]
                  · rfl
                rw [e3] at q2
                exact ⟨b, cs, et, hb, hblk, q2, trivial⟩
              · rw [S.up_other _ _ (by simp [hxy])]
                have e2 : mvMT G.own yy oo d (.m x) = G.own (.m x) := by funext j; simp [mvMT, hxy]
                rw [e2]
                exact hR.mem x
          · cases he
        · cases he
      · cases he
    · cases he
  · cases h2

/-- The cells of what is appended. -/
theorem PR.rows {sz : Nat} {es : List (List PV)} (h : PR fp w v (.sl sz es)) (hn : es ≠ []) : ∃ A cap news, v = .slice A es.length cap ∧ news.length = es.length * sz ∧ PRs fp w news es.flatten ∧ (∃ ad, A = some ad ∧ ∀ (j : Nat) u, news[j]? = some u → w.cell? (ad.add j) = some u) ∧ ∀ r ∈ es, r.length = sz := by
  classical
  obtain ⟨A, cap, rfl, _, _, _, hne⟩ := h.slInv
  obtain ⟨b, oo, rfl, hl, hcell⟩ := hne hn
  have hfl := flat_len hl
  have hg : ∀ (j : Nat) p, es.flatten[j]? = some p → ∃ u, w.cell? ⟨b, oo + j, none⟩ = some u ∧ PR fp w u p := fun j p hp => by
    obtain ⟨i, r, k, h1, h2, rfl⟩ := flat_get hl hp
    obtain ⟨_, u, hu, hpr⟩ := hcell _ _ _ _ h1 h2
    exact ⟨u, by rw [← Nat.add_assoc]; exact hu, hpr⟩
  have hvs : ∀ (j : Nat) u, ((List.range (es.length * sz)).map fun j => (w.cell? ⟨b, oo + j, none⟩).getD Go.undef)[j]? = some u → j < es.length * sz ∧ u = (w.cell? ⟨b, oo + j, none⟩).getD Go.undef := fun j u hu => by
    rw [List.getElem?_map, Option.map_eq_some_iff] at hu
    obtain ⟨q, hq, rfl⟩ := hu
    obtain ⟨h1, h2⟩ := List.getElem?_eq_some_iff.1 hq
    simp at h1 h2
    subst h2
    exact ⟨h1, rfl⟩
  refine ⟨_, cap, (List.range (es.length * sz)).map fun j => (w.cell? ⟨b, oo + j, none⟩).getD Go.undef, rfl, by simp, ⟨by simp [hfl], fun j u p hu hp => ?_⟩, ⟨_, rfl, fun j u hu => ?_⟩, hl⟩
  · obtain ⟨_, rfl⟩ := hvs j u hu
    obtain ⟨u, hu, hpr⟩ := hg j p hp
    simpa [hu] using hpr
  · obtain ⟨hj, rfl⟩ := hvs j u hu
    obtain ⟨u, hu, _⟩ := hg j _ (List.getElem?_eq_getElem (by omega))
    rw [Addr.add_mid]
    simp [hu]

theorem rows_nil {sz : Nat} {es : List (List PV)} (h : PR fp w v (.sl sz es)) (hn : es = []) : ∃ A cap, v = .slice A 0 cap := by
  obtain ⟨A, cap, rfl, _⟩ := h.slInv
  subst hn
  exact ⟨A, cap, rfl⟩

theorem Rel.frz (h : Rel X G s a w) {g p m : Nat} (hs : ∀ x, G.site x ≠ some g) (ho : ∀ k j e, G.own k j ≠ some (g, e)) (hw : X.w0.heap.size ≤ g ∨ X.L g) : Rel X G s a (w.freeze ⟨g, p, none⟩ m) := by
  have hoth : ∀ b, b ≠ g → (w.freeze ⟨g, p, none⟩ m).heap[b]? = w.heap[b]? := fun b hb => by
    unfold World.freeze
    split
    · rfl
    · simp [Array.getElem?_modify, Ne.symm hb]
  have hcell : ∀ ad : Addr, (w.freeze ⟨g, p, none⟩ m).cell? ad = w.cell? ad := fun ad => by
    by_cases hb : ad.block = g
    · unfold World.freeze
      split
      · rfl
      · simp only [World.cell?, Array.getElem?_modify, hb, if_true]
        cases w.heap[g]? with
        | none => rfl
        | some ob => cases ob <;> rfl
    · exact World.cell?_of_block (hoth _ hb)
  have hsize : (w.freeze ⟨g, p, none⟩ m).heap.size = w.heap.size := by
    unfold World.freeze
    split <;> simp
  have hm : ∀ b o v, Abs.fp X G b o → w.cell? ⟨b, o, none⟩ = some v → Abs.fp X G b o ∧ (w.freeze ⟨g, p, none⟩ m).cell? ⟨b, o, none⟩ = some v := fun b o v hf hc => ⟨hf, (hcell _).trans hc⟩
  refine ⟨fun t => (h.tmp t).mono hm (fun _ _ h => h) fun j g' e he => hoth g' (fun hg => ho _ _ _ (hg ▸ he)), fun x => (h.mem x).mono hm (fun _ _ h => h) (fun b hb => ⟨hb, hoth b fun hg => hs x (hg ▸ hb)⟩) fun j g' e he => hoth g' (fun hg => ho _ _ _ (hg ▸ he)), h.ownI, h.ownS, h.siteI, fun x b hb => by rw [hsize]; exact h.siteF x b hb, fun k j b e hb => by rw [hsize]; exact h.ownF k j b e hb, h.okS, h.okB, ?_, h.df⟩
  refine ⟨?_, ?_, ?_, by rw [hsize]; exact h.fr.size, fun b hb hl => ?_, fun b o ho' => (hcell _).trans (h.fr.cell b o ho')⟩
  · have : (w.freeze ⟨g, p, none⟩ m).os = w.os := by unfold World.freeze; split <;> rfl
    exact this.trans h.fr.os
  · have : (w.freeze ⟨g, p, none⟩ m).tape = w.tape := by unfold World.freeze; split <;> rfl
    exact this.trans h.fr.tape
  · have : (w.freeze ⟨g, p, none⟩ m).output = w.output := by unfold World.freeze; split <;> rfl
    exact this.trans h.fr.output
  · have hne : b ≠ g := by
      rintro rfl
      rcases hw with q | q
      · omega
      · exact hl q
    exact (hoth b hne).trans (h.fr.block b hb hl)
theorem run_convert_self (w : World) (t e : TypeId) (ht : P.underlying t = some (.slice e)) (he : P.underlying e = some (.int .u8)) (g n c : Nat) (cs : Array Value) (fz : Nat × Nat) (hg : w.heap[g]? = some (.cells cs e fz)) :
    (convert t t (.slice (some ⟨g, 0, none⟩) n c)).run P w = .ok (.slice (some ⟨g, 0, none⟩) n c) (w.freeze ⟨g, cs.size, none⟩ 1) := by
  have hsh : w.shape? g = some (e, cs.size) := by simp [World.shape?, hg]
  simp [convert, run_underlying ht, run_underlying he, markStringish, hsh, Result.andThen]
theorem i_fzb {d n : Nat} (hR : Rel X G s a w) (hN : a.tmps.size = N) (hok : okI P N (.fzb d n) o = true) (he : eff s (.fzb d n) = some (c, U)) (hc : c) : Nxt P X G o a w (s.ups U) mk := by
  simp only [okI, Bool.and_eq_true, bne_iff_ne] at hok
  obtain ⟨⟨h1, hnd⟩, h2⟩ := hok
  obtain ⟨hd, hlt⟩ := okDst_spec h1
  split at h2
  · rename_i t t' m hop
    simp only [Bool.and_eq_true, beq_iff_eq] at h2
    obtain ⟨⟨rfl, rfl⟩, hu⟩ := h2
    split at hu
    · rename_i e hue
      have hel : P.underlying e = some (.int .u8) := by
        unfold uInt at hu
        split at hu
        · rename_i k' hk'; simp at hu; subst hu; exact hk'
        · cases hu
      simp only [eff] at he
      split at he
      · rename_i e' sz es hsm
        cases he
        have htn := hR.tmp m
        have hdem := htn.dem fun j g e he o ho => hR.ownfp he ho
        rw [hsm] at htn hdem
        obtain ⟨⟨xs, q1, q2, q3, q4, q5⟩, q6⟩ := htn
        rcases q1.2 with ⟨_, hn⟩ | ⟨g, cap, cur, hv, hbg, hg, hnc, hcm, hcs, htake⟩
        · omega
        · have hown : ∃ e0, G.own (.t m) 0 = some (g, e0) := by
            rcases q5 with ⟨q, _⟩ | ⟨g', c', l', q, ho⟩
            · rw [hv] at q; cases q
            · rw [hv] at q; cases q; exact ⟨_, ho⟩
          obtain ⟨e0, hown⟩ := hown
          by_cases hmlt : m < a.tmps.size
          · have r1 := hR.put (d := m) hmlt (v := a.tmps.getD m Go.undef) hdem
            have ea : a.put (some m) (a.tmps.getD m Go.undef) = a := by
              unfold Act.put
              simp only
              have : a.tmps.setIfInBounds m (a.tmps.getD m Go.undef) = a.tmps := by
                apply Array.ext
                · simp
                · intro i h1 h2
                  rw [Array.getElem_setIfInBounds]
                  split
                  · rename_i hh; subst hh; simp [Array.getD, hmlt]
                  · rfl
              rw [this]
            rw [ea] at r1
            have r2 := r1.put (d := d) (by rw [hN]; exact hlt) (v := a.tmps.getD m Go.undef) (av := .pv (.sl sz es)) (by
              exact VR2.mono (fun b o v hf hcell => ⟨⟨hf.1, hf.2.1, fun k j e hk => hf.2.2 k j e (by
                simp only [clr] at hk
                split at hk
                · cases hk
                · exact hk)⟩, hcell⟩) (fun _ _ h => h) (fun _ _ _ he => by cases he) hdem)
            have r3 := r2.frz (g := g) (p := cur.size) (m := 1) (fun x hx => hR.ownS _ _ _ _ x hown hx) (fun k j e hk => by
              simp only [clr] at hk
              split at hk
              · cases hk
              · split at hk
                · cases hk
                · rename_i hk1 hk2
                  exact hk2 (hR.ownI _ _ _ _ _ _ _ hk hown).1) (hR.ownF _ _ _ _ hown).2
            refine Nxt.value (G' := { G with own := clr (clr G.own (.t m)) (.t d) }) (v := a.tmps.getD m Go.undef) (w' := w.freeze ⟨g, cur.size, none⟩ 1) ?_ (by rw [hd]; exact r3) fun x _ => rfl
            have hev : a.eval (.tmp m) = a.tmps.getD m Go.undef := rfl
            have hcv : e' = e ∨ True := Or.inr trivial
            have hshape : w.shape? g = some (e', cur.size) := by simp [World.shape?, hg]
            have hrun : (convert t t (.slice (some ⟨g, 0, none⟩) es.length cap)).run P w = .ok (.slice (some ⟨g, 0, none⟩) es.length cap) (w.freeze ⟨g, cur.size, none⟩ 1) := by
              simp [convert, run_underlying hue, run_underlying hel, markStringish, hshape, Result.andThen]
            simp only [execOp, hop, hev, hv, Sem.run_bind, hrun, Result.andThen_ok]
            rfl
          · rw [show a.tmps.getD m Go.undef = Go.undef by simp [Array.getD, hmlt]] at hv
            cases hv
      · cases he
    · cases hu
  · cases h2
theorem rows_src {st : Option Nat} {x : Opd} {y : Operand} {szx : Nat} {rows : List (List PV)} {c' : Prop} (hR : Rel X G s a w) (hx : okX x y = true) (hrows : rowsA s st (ev s x) = some (c', szx, rows)) (hc' : c') :
    ∃ A cap news, a.eval y = .slice A rows.length cap ∧ news.length = rows.length * szx ∧ PRs (Abs.fp X G) w news rows.flatten ∧ (0 < rows.length → ∃ ad, A = some ad ∧ ∀ (j : Nat) u, news[j]? = some u → w.cell? (ad.add j) = some u) ∧ (∀ r ∈ rows, r.length = szx) ∧ ∀ u ∈ news, u.oneCell' = true := by
  have fromSl : PR (Abs.fp X G) w (a.eval y) (.sl szx rows) → ∃ A cap news, a.eval y = .slice A rows.length cap ∧ news.length = rows.length * szx ∧ PRs (Abs.fp X G) w news rows.flatten ∧ (0 < rows.length → ∃ ad, A = some ad ∧ ∀ (j : Nat) u, news[j]? = some u → w.cell? (ad.add j) = some u) ∧ (∀ r ∈ rows, r.length = szx) ∧ ∀ u ∈ news, u.oneCell' = true := fun hp => by
    by_cases hne : rows = []
    · obtain ⟨A, cap, h⟩ := rows_nil hp hne
      subst hne
      exact ⟨A, cap, [], h, by simp, PRs.nil _ _, fun h => by simp at h, by simp, by simp⟩
    · obtain ⟨A, cap, news, g1, g2, g3, g4, g5⟩ := hp.rows hne
      exact ⟨A, cap, news, g1, g2, g3, fun _ => g4, g5, g3.one⟩
  have hv : V2 (Abs.fp X G) G.site w (a.eval y) (ev s x).dem2 := hR.opd _ _ hx
  generalize ev s x = q at hrows hv
  cases q <;> simp only [rowsA, reduceCtorEq] at hrows
  case pv p =>
    cases p <;> simp only [Option.some.injEq, Prod.mk.injEq, reduceCtorEq] at hrows
    obtain ⟨_, rfl, rfl⟩ := hrows
    exact fromSl hv.pv
  case os e2 sz2 es2 =>
    simp only [Option.some.injEq, Prod.mk.injEq] at hrows
    obtain ⟨_, rfl, rfl⟩ := hrows
    exact fromSl hv.pv
  case sr yy oo n2 sz2 =>
    split at hrows
    · split at hrows
      · rename_i hs2 _ l hl
        obtain ⟨hs1, _⟩ := hs2
        simp only [Option.some.injEq, Prod.mk.injEq] at hrows
        obtain ⟨rfl, rfl, rfl⟩ := hrows
        obtain ⟨b, cap, hb, hav, _, _⟩ := hv.sr
        obtain ⟨cs, et, hblk, hz⟩ := hR.block hb (by rw [hl]; trivial)
        rw [hl] at hz
        obtain ⟨⟨cs', e1, h1⟩, _⟩ := hz
        cases e1
        have hl2 : cs.size = l.length := by simpa using h1.1
        have hfl : (((l.drop oo).take n2).map fun p => [p]).flatten = (l.drop oo).take n2 := by
          generalize (l.drop oo).take n2 = q
          induction q with
          | nil => rfl
          | cons p q ih => simp only [List.map_cons, List.flatten_cons, ih]; rfl
        have hn2 : (((l.drop oo).take n2).map fun p => [p]).length = n2 := by simp; omega
        refine ⟨some ⟨b, oo, none⟩, cap, (cs.toList.drop oo).take n2, by rw [hn2]; exact hav, by rw [hn2]; simp; omega, by rw [hfl]; exact (h1.drop oo).take n2, fun _ => ⟨_, rfl, fun j u hu => ?_⟩, fun r hr => ?_, ((h1.drop oo).take n2).one⟩
        · rw [Addr.add_mid, cell_of_heap hblk]
          simp only [List.getElem?_take, List.getElem?_drop, Array.getElem?_toList] at hu
          split at hu
          · exact hu
          · cases hu
        · obtain ⟨p, _, rfl⟩ := List.mem_map.1 hr; rfl
      · cases hrows
    · cases hrows
theorem flat_one {rows : List (List PV)} (h : ∀ r ∈ rows, r.length = 1) (n : Nat) : (rows.take n).flatten = rows.flatten.take n := by
  induction rows generalizing n with
  | nil => simp
  | cons r rows ih =>
    cases n with
    | zero => simp
    | succ n =>
      obtain ⟨p, rfl⟩ := List.length_eq_one_iff.1 (h r (by simp))
      simp only [List.take_succ_cons, List.flatten_cons, List.singleton_append]
      rw [ih (fun r hr => h r (by simp [hr]))]
theorem i_copy {d yv : Nat} {st : Option Nat} {x y : Opd} (hR : Rel X G s a w) (hN : a.tmps.size = N) (hok : okI P N (.copy d yv st x y) o = true) (he : eff s (.copy d yv st x y) = some (c, U)) (hc : c) : Nxt P X G o a w (s.ups U) mk := by
  simp only [okI, Bool.and_eq_true] at hok
  obtain ⟨h1, h2⟩ := hok
  obtain ⟨hd, hlt⟩ := okDst_spec h1
  split at h2
  · rename_i cl hop
    split at h2
    · rename_i hcal
      split at h2
      · rename_i ux uy t t' hargs hat
        simp only [Bool.and_eq_true] at h2
        obtain ⟨⟨hx, hy⟩, hu⟩ := h2
        split at hu
        · rename_i el hut
          have hA : cl.args = #[ux, uy] := by cases hh : cl.args with | mk l => simp only [hh] at hargs; rw [hargs]
          have hT : cl.argTypes = #[t, t'] := by cases hh : cl.argTypes with | mk l => simp only [hh] at hat; rw [hat]
          have hsz : (P.info? el).map (·.size) = some 1 := by simpa [szOf] using hu
          have hv : V2 (Abs.fp X G) G.site w (a.eval ux) (ev s x).dem2 := hR.opd _ _ hx
          simp only [eff] at he
          split at he
          · rename_i v' oo n sz hev
            rw [hev] at hv
            split at he
            · rename_i hvv
              subst hvv
              split at he
              · rename_i l hl
                split at he
                · rename_i c' szx rows hrows
                  cases he
                  obtain ⟨hc', rfl, rfl, hfit⟩ := hc
                  obtain ⟨A, cap, news, g1, g2, g3, g4, g5, g6⟩ := rows_src hR hy hrows hc'
                  obtain ⟨b, cap2, hb, hav, _, _⟩ := hv.sr
                  obtain ⟨cs, et, hblk, hz⟩ := hR.block hb (by rw [hl]; trivial)
                  rw [hl] at hz
                  obtain ⟨⟨cs', e1, p1⟩, hnone⟩ := hz
                  cases e1
                  have hcl : cs.size = l.length := by simpa using p1.1
                  simp only [Nat.mul_one] at g2
                  have hflat : (rows.take n).flatten = rows.flatten.take n := flat_one g5 n
                  have hnl : (news.take n).length = min rows.length n := by rw [List.length_take, g2, Nat.min_comm]
                  have key : ∃ w', (Builtin.copy_ #[t, t'] o.type #[a.eval ux, a.eval uy]).run P w = .ok (goInt ((min rows.length n : Nat) : Int)) w' ∧ ∃ G', Rel X G' (s.up (.m v') (.pagg (l.take oo ++ (rows.take n).flatten ++ l.drop (oo + min rows.length n)))) a w' ∧ ∀ z, G'.site z = G.site z := by
                    by_cases h0 : min rows.length n = 0
                    · refine ⟨w, by rw [hav, g1, run_copy_none (P := P) w t t' o.type el _ _ _ _ _ _ hut hsz h0, h0]; rfl, ?_⟩
                      have e2 : l.take oo ++ (rows.take n).flatten ++ l.drop (oo + min rows.length n) = l := by
                        have : (rows.take n).flatten = [] := by
                          have : (rows.take n) = [] := List.eq_nil_of_length_eq_zero (by rw [List.length_take]; omega)
                          rw [this]; rfl
                        rw [this, h0, List.append_nil, Nat.add_zero, List.take_append_drop]
                      rw [e2]
                      have e3 : s.up (.m v') (.pagg l) = s := by
                        funext k
                        unfold S.up
                        split
                        · rename_i hk; rw [hk, hl]
                        · rfl
                      rw [e3]
                      exact ⟨G, hR, fun _ => rfl⟩
                    · obtain ⟨ad, rfl, hcells⟩ := g4 (by omega)
                      have hrun := run_copy_row (P := P) w t t' o.type el b oo n cap2 ad rows.length cap cs et (news.take n) hut hsz hblk hnl (fun j v hj => by
                        rw [List.getElem?_take] at hj
                        split at hj
                        · exact hcells j v hj
                        · cases hj) (by rw [hnl, hcl]; omega) (fun u hu => g6 u (List.mem_of_mem_take hu))
                      refine ⟨_, by rw [hav, g1, hrun, hnl], ?_⟩
                      refine ⟨_, hR.storeSite hb hblk (fun _ => none) (fun _ _ h => by cases h) (r := .pagg (l.take oo ++ (rows.take n).flatten ++ l.drop (oo + min rows.length n))) ⟨⟨_, rfl, ?_⟩, fun _ => rfl⟩ trivial, fun _ => rfl⟩
                      rw [hflat]
                      exact ((p1.take oo).append (g3.take n)).append (p1.drop _)
                  obtain ⟨w', hrun, G', hR', hs⟩ := key
                  refine Nxt.value (G' := { G' with own := clr G'.own (.t d) }) (v := goInt ((min rows.length n : Nat) : Int)) (w' := w') ?_ (by rw [hd]; exact hR'.put (by rw [hN]; exact hlt) (V2.mkpv (.int _ _))) fun z _ => hs z
                  simp only [execOp, hop, resolve, hcal, hA, hT, Sem.run_bind, Sem.run_pure, Result.andThen_ok, invoke, builtin, List.map_toArray, List.map_cons, List.map_nil, hrun]
                · cases he
              · cases he
            · cases he
          · cases he
        · cases hu
      · cases h2
    · cases h2
  · cases h2

theorem i_app {d e sz n : Nat} {st : Option Nat} {x : Opd} (hR : Rel X G s a w) (hN : a.tmps.size = N) (hok : okI P N (.app d e sz n st x) o = true) (he : eff s (.app d e sz n st x) = some (c, U)) (hc : c) : Nxt P X G o a w (s.ups U) mk := by
  simp only [okI, Bool.and_eq_true, bne_iff_ne] at hok
  obtain ⟨⟨h1, hnd⟩, h2⟩ := hok
  obtain ⟨hd, hlt⟩ := okDst_spec h1
  split at h2
  · rename_i cl hop
    split at h2
    · rename_i hcal
      split at h2
      · rename_i m y t t' hargs hat
        simp only [Bool.and_eq_true, beq_iff_eq, decide_eq_true_eq] at h2
        obtain ⟨⟨⟨⟨⟨⟨⟨rfl, hx⟩, rfl⟩, hu⟩, hsz⟩, hpos⟩, hby⟩, hzz⟩ := h2
        have hu' : P.underlying t = some (.slice e) := by
          unfold uSlice at hu
          split at hu
          · rename_i e' he'; simp at hu; subst hu; exact he'
          · cases hu
        obtain ⟨ie, hie, hsn⟩ := Option.map_eq_some_iff.1 (by simpa [szOf] using hsz)
        split at hby
        · rename_i byy hbyy
          rw [hie] at hbyy
          simp only [Option.map_some, Option.some.injEq] at hbyy
          simp only [decide_eq_true_eq] at hby
          split at hzz
          · rename_i zv hzv
            simp only [beq_iff_eq] at hzz
            unfold zeroOf at hzv
            rw [hie] at hzv
            simp only [Option.bind_some] at hzv
            have hA : cl.args = #[.tmp m, y] := by cases hh : cl.args with | mk l => simp only [hh] at hargs; rw [hargs]
            have hT : cl.argTypes = #[t, t] := by cases hh : cl.argTypes with | mk l => simp only [hh] at hat; rw [hat]
            have hev : a.eval (.tmp m) = a.tmps.getD m Go.undef := rfl
            simp only [eff] at he
            split at he
            · rename_i e' sz' es hsm
              split at he
              · rename_i c' szx rows hrows
                cases he
                obtain ⟨⟨rfl, rfl, rfl⟩, hc', hlen⟩ := hc
                have htn := hR.tmp m
                rw [hsm] at htn
                obtain ⟨⟨xs, q1, q2, q3, q4, q5⟩, q6⟩ := htn
                -- what is appended
                have src : ∃ A cap news, a.eval y = .slice A rows.length cap ∧ news.length = rows.length * szx ∧ PRs (Abs.fp X G) w news rows.flatten ∧ (0 < rows.length → ∃ ad, A = some ad ∧ ∀ (j : Nat) u, news[j]? = some u → w.cell? (ad.add j) = some u) ∧ (∀ r ∈ rows, r.length = szx) ∧ ∀ u ∈ news, u.oneCell' = true := by
                  have fromSl : PR (Abs.fp X G) w (a.eval y) (.sl szx rows) → ∃ A cap news, a.eval y = .slice A rows.length cap ∧ news.length = rows.length * szx ∧ PRs (Abs.fp X G) w news rows.flatten ∧ (0 < rows.length → ∃ ad, A = some ad ∧ ∀ (j : Nat) u, news[j]? = some u → w.cell? (ad.add j) = some u) ∧ (∀ r ∈ rows, r.length = szx) ∧ ∀ u ∈ news, u.oneCell' = true := fun hp => by
                    by_cases hne : rows = []
                    · obtain ⟨A, cap, h⟩ := rows_nil hp hne
                      subst hne
                      exact ⟨A, cap, [], h, by simp, PRs.nil _ _, fun h => by simp at h, by simp, by simp⟩
                    · obtain ⟨A, cap, news, g1, g2, g3, g4, g5⟩ := hp.rows hne
                      exact ⟨A, cap, news, g1, g2, g3, fun _ => g4, g5, g3.one⟩
                  have hv : V2 (Abs.fp X G) G.site w (a.eval y) (ev s x).dem2 := hR.opd _ _ hx
                  generalize ev s x = q at hrows hv
                  cases q <;> simp only [rowsA, reduceCtorEq] at hrows
                  case pv p =>
                    cases p <;> simp only [Option.some.injEq, Prod.mk.injEq, reduceCtorEq] at hrows
                    obtain ⟨_, rfl, rfl⟩ := hrows
                    exact fromSl hv.pv
                  case os e2 sz2 es2 =>
                    simp only [Option.some.injEq, Prod.mk.injEq] at hrows
                    obtain ⟨_, rfl, rfl⟩ := hrows
                    exact fromSl hv.pv
                  case sr yy oo n2 sz2 =>
                    split at hrows
                    · split at hrows
                      · rename_i hs2 _ l hl
                        obtain ⟨hs1, _⟩ := hs2
                        simp only [Option.some.injEq, Prod.mk.injEq] at hrows
                        obtain ⟨rfl, rfl, rfl⟩ := hrows
                        obtain ⟨b, cap, hb, hav, _, _⟩ := hv.sr
                        obtain ⟨cs, et, hblk, hz⟩ := hR.block hb (by rw [hl]; trivial)
                        rw [hl] at hz
                        obtain ⟨⟨cs', e1, h1⟩, _⟩ := hz
                        cases e1
                        have hl2 : cs.size = l.length := by simpa using h1.1
                        have hfl : (((l.drop oo).take n2).map fun p => [p]).flatten = (l.drop oo).take n2 := by
                          generalize (l.drop oo).take n2 = q
                          induction q with
                          | nil => rfl
                          | cons p q ih => simp only [List.map_cons, List.flatten_cons, ih]; rfl
                        have hn2 : (((l.drop oo).take n2).map fun p => [p]).length = n2 := by simp; omega
                        refine ⟨some ⟨b, oo, none⟩, cap, (cs.toList.drop oo).take n2, by rw [hn2]; exact hav, by rw [hn2]; simp; omega, by rw [hfl]; exact (h1.drop oo).take n2, fun _ => ⟨_, rfl, fun j u hu => ?_⟩, fun r hr => ?_, ((h1.drop oo).take n2).one⟩
                        · rw [Addr.add_mid, cell_of_heap hblk]
                          simp only [List.getElem?_take, List.getElem?_drop, Array.getElem?_toList] at hu
                          split at hu
                          · exact hu
                          · cases hu
                        · obtain ⟨p, _, rfl⟩ := List.mem_map.1 hr; rfl
                      · cases hrows
                    · cases hrows
                obtain ⟨A, cap, news, g1, g2, g3, g4, g5, g6⟩ := src
                obtain ⟨v', w', hrun, hown', hcase⟩ := run_app (P := P) (w := w) (ty := o.type) hu' hie hzv hsn hbyy hzz hpos q1 (A := A) (m := rows.length) (c := cap) g2 g4 g6 (by unfold maxLen; omega) (by
                  have := Nat.mul_le_mul hlen hby
                  omega)
                obtain ⟨G', hR', hs⟩ := hR.app (d := d) (by rw [hN]; exact hlt) hnd hsm q2 g3 g5 q1 hown' hcase
                rw [hsm] at hR'
                refine Nxt.value (v := v') (w' := w') ?_ (by rw [hd]; exact hR') fun x _ => hs x
                simp only [execOp, hop, resolve, hcal, hA, hT, Sem.run_bind, Sem.run_pure, Result.andThen_ok, invoke, builtin, List.map_toArray, List.map_cons, List.map_nil, hev, g1, hrun]
              · cases he
            · cases he
          · cases hzz
        · cases hby
      · cases h2
    · cases h2
  · cases h2
end
end Go.Abs
end
