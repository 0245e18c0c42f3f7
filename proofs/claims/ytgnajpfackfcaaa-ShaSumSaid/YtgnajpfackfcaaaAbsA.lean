/- An abstract machine, its states and what they say of a world: pure values, slices by their contents, variables by names. No condition. -/
import Derived.WalkKit
import Derived.ProofKit
import Derived.Below
import Derived.Laws.AppendOwn
import Derived.Maps.AppendAt
import Derived.Deep.MidRow
import Derived.Laws.IdiomCopy
import Derived.Orders
set_option linter.unusedVariables false
set_option linter.unusedSimpArgs false
namespace Go.Abs

/-- Pure values: what cells hold, slices by their elements' cells. -/
inductive PV where
  | bool (b : Bool)
  | int (k : IntKind) (n : Int)
  | str (s : ByteArray)
  | nilp
  | sl (sz : Nat) (es : List (List PV))

/-- What is known of a slot. -/
inductive AV where
  | undef
  | none
  | pv (p : PV)
  | os (e sz : Nat) (es : List (List PV))
  | ptr (x off : Nat)
  | rp (l : List PV)
  | sr (x off len sz : Nat)
  | fn (f : Nat)
  | pagg (l : List PV)
  | agg (l : List AV)
  | tup (l : List AV)

inductive Key where
  | t (n : Nat)
  | m (n : Nat)
  deriving DecidableEq

def S := Key → AV
def S.up (s : S) (k : Key) (v : AV) : S := fun j => if j = k then v else s j
def S.ups (s : S) : List (Key × AV) → S
  | [] => s
  | (k, v) :: r => S.ups (s.up k v) r
theorem S.up_same (s : S) (k : Key) (v : AV) : s.up k v k = v := by simp [S.up]
theorem S.up_other (s : S) {k j : Key} (v : AV) (h : j ≠ k) : s.up k v j = s j := by simp [S.up, h]

/-- The value is the pure one; each cell that is read lies where 'fp' holds. -/
inductive PR (fp : Nat → Nat → Prop) (w : World) : Value → PV → Prop
  | bool (b : Bool) : PR fp w (.bool b) (.bool b)
  | int (k : IntKind) (n : Int) : PR fp w (.int k n) (.int k n)
  | str (s : ByteArray) : PR fp w (.string s) (.str s)
  | nilp : PR fp w (.pointer none) .nilp
  | sl0 (A : Option Addr) (c sz : Nat) : c ≤ maxLen → (A = none → c = 0) → PR fp w (.slice A 0 c) (.sl sz [])
  | sl (b o c sz : Nat) (es : List (List PV)) (f : Nat → Nat → Value) : es.length ≤ c → c ≤ maxLen → (∀ r ∈ es, r.length = sz) →
      (∀ i r j, es[i]? = some r → j < sz → fp b (o + i * sz + j) ∧ w.cell? ⟨b, o + i * sz + j, none⟩ = some (f i j)) →
      (∀ i r j p, es[i]? = some r → r[j]? = some p → PR fp w (f i j) p) → PR fp w (.slice (some ⟨b, o, none⟩) es.length c) (.sl sz es)

theorem PR.mono {fp fp' : Nat → Nat → Prop} {w w' : World} (h : ∀ b o v, fp b o → w.cell? ⟨b, o, none⟩ = some v → fp' b o ∧ w'.cell? ⟨b, o, none⟩ = some v)
    {v : Value} {p : PV} (hp : PR fp w v p) : PR fp' w' v p := by
  induction hp with
  | bool b => exact .bool b
  | int k n => exact .int k n
  | str s => exact .str s
  | nilp => exact .nilp
  | sl0 A c sz h1 h2 => exact .sl0 A c sz h1 h2
  | sl b o c sz es f h1 h2 h3 h4 _ ih =>
    refine .sl b o c sz es f h1 h2 h3 (fun i r j hi hj => ?_) ih
    obtain ⟨a1, a2⟩ := h4 i r j hi hj
    exact h _ _ _ a1 a2

theorem PR.one {fp : Nat → Nat → Prop} {w : World} {v : Value} {p : PV} (h : PR fp w v p) : v.oneCell' = true := by cases h <;> rfl
theorem PR.cells {fp : Nat → Nat → Prop} {w : World} {v : Value} {p : PV} (h : PR fp w v p) : v.cells = #[v] := by cases h <;> rfl

def PRs (fp : Nat → Nat → Prop) (w : World) (vs : List Value) (ps : List PV) : Prop :=
  vs.length = ps.length ∧ ∀ (j : Nat) v p, vs[j]? = some v → ps[j]? = some p → PR fp w v p

theorem PRs.mono {fp fp' : Nat → Nat → Prop} {w w' : World} (h : ∀ b o v, fp b o → w.cell? ⟨b, o, none⟩ = some v → fp' b o ∧ w'.cell? ⟨b, o, none⟩ = some v)
    {vs : List Value} {ps : List PV} (hp : PRs fp w vs ps) : PRs fp' w' vs ps := ⟨hp.1, fun j v p a b => (hp.2 j v p a b).mono h⟩
theorem PRs.nil (fp : Nat → Nat → Prop) (w : World) : PRs fp w [] [] := ⟨rfl, fun j v p h => by simp at h⟩
theorem PRs.get {fp : Nat → Nat → Prop} {w : World} {vs : List Value} {ps : List PV} (h : PRs fp w vs ps) {j : Nat} {p : PV} (hp : ps[j]? = some p) : ∃ v, vs[j]? = some v ∧ PR fp w v p := by
  have hj : j < vs.length := by rw [h.1]; exact (List.getElem?_eq_some_iff.1 hp).1
  exact ⟨vs[j], List.getElem?_eq_getElem hj, h.2 j _ p (List.getElem?_eq_getElem hj) hp⟩
theorem PRs.getV {fp : Nat → Nat → Prop} {w : World} {vs : List Value} {ps : List PV} (h : PRs fp w vs ps) {j : Nat} {v : Value} (hv : vs[j]? = some v) : ∃ p, ps[j]? = some p ∧ PR fp w v p := by
  have hj : j < ps.length := by rw [← h.1]; exact (List.getElem?_eq_some_iff.1 hv).1
  exact ⟨ps[j], List.getElem?_eq_getElem hj, h.2 j v _ hv (List.getElem?_eq_getElem hj)⟩
theorem PRs.append {fp : Nat → Nat → Prop} {w : World} {vs vs' : List Value} {ps ps' : List PV} (h : PRs fp w vs ps) (h' : PRs fp w vs' ps') : PRs fp w (vs ++ vs') (ps ++ ps') := by
  refine ⟨by simp [h.1, h'.1], fun j v p a b => ?_⟩
  by_cases hj : j < vs.length
  · rw [List.getElem?_append_left hj] at a
    rw [List.getElem?_append_left (by rw [← h.1]; exact hj)] at b
    exact h.2 j v p a b
  · rw [List.getElem?_append_right (by omega)] at a
    rw [List.getElem?_append_right (by rw [← h.1]; omega), ← h.1] at b
    exact h'.2 _ v p a b
theorem PRs.take {fp : Nat → Nat → Prop} {w : World} {vs : List Value} {ps : List PV} (h : PRs fp w vs ps) (n : Nat) : PRs fp w (vs.take n) (ps.take n) := by
  refine ⟨by simp [h.1], fun j v p a b => ?_⟩
  rw [List.getElem?_take] at a b
  split at a
  · rename_i hj; rw [if_pos hj] at b; exact h.2 j v p a b
  · cases a
theorem PRs.drop {fp : Nat → Nat → Prop} {w : World} {vs : List Value} {ps : List PV} (h : PRs fp w vs ps) (n : Nat) : PRs fp w (vs.drop n) (ps.drop n) := by
  refine ⟨by simp [h.1], fun j v p a b => ?_⟩
  rw [List.getElem?_drop] at a b
  exact h.2 _ v p a b
theorem PRs.set {fp : Nat → Nat → Prop} {w : World} {vs : List Value} {ps : List PV} (h : PRs fp w vs ps) (n : Nat) {v : Value} {p : PV} (hp : PR fp w v p) : PRs fp w (vs.set n v) (ps.set n p) := by
  refine ⟨by simp [h.1], fun j u q a b => ?_⟩
  rw [List.getElem?_set] at a b
  split at a
  · rename_i hj
    subst hj
    rw [if_pos rfl] at b
    split at a
    · cases a
      split at b
      · cases b; exact hp
      · cases b
    · cases a
  · rename_i hj
    rw [if_neg hj] at b
    exact h.2 j u q a b
theorem PRs.one {fp : Nat → Nat → Prop} {w : World} {vs : List Value} {ps : List PV} (h : PRs fp w vs ps) : ∀ v ∈ vs, v.oneCell' = true := by
  intro v hv
  obtain ⟨j, hj⟩ := List.getElem?_of_mem hv
  obtain ⟨p, _, hp⟩ := h.getV hj
  exact hp.one

/-- A slice whose block the call owns from its end on. -/
def OSR (fp : Nat → Nat → Prop) (w : World) (v : Value) (e sz : Nat) (es : List (List PV)) (ow : Option (Nat × Nat)) : Prop :=
  ∃ xs, w.ownsRow 0 e sz v es.length xs ∧ PRs fp w xs es.flatten ∧ (∀ r ∈ es, r.length = sz) ∧ 0 < sz ∧
    ((v = .slice none 0 0 ∧ ow = none) ∨ ∃ g n c, v = .slice (some ⟨g, 0, none⟩) n c ∧ ow = some (g, es.length * sz))

/-- Scalars. -/
def VR0 (fp : Nat → Nat → Prop) (site : Nat → Option Nat) (w : World) (v : Value) (a : AV) (ow : Option (Nat × Nat)) : Prop :=
  match a with
  | .undef => ow = none
  | .none => v = Go.undef ∧ ow = none
  | .pv p => PR fp w v p ∧ ow = none
  | .os e sz es => OSR fp w v e sz es ow
  | .ptr x off => (∃ b, site x = some b ∧ v = .pointer (some ⟨b, off, none⟩)) ∧ ow = none
  | .rp l => (∃ b o, v = .pointer (some ⟨b, o, none⟩) ∧ ∀ (j : Nat) p, l[j]? = some p → fp b (o + j) ∧ ∃ u, w.cell? ⟨b, o + j, none⟩ = some u ∧ PR fp w u p) ∧ ow = none
  | .sr x off len _ => (∃ b c, site x = some b ∧ v = .slice (some ⟨b, off, none⟩) len c ∧ len ≤ c ∧ c ≤ maxLen) ∧ ow = none
  | .fn f => v = .func (.func f) #[] #[] ∧ ow = none
  | _ => False

def at0 (o : Option (Nat × Nat)) (j : Nat) : Option (Nat × Nat) := if j = 0 then o else none

def VR1 (fp : Nat → Nat → Prop) (site : Nat → Option Nat) (w : World) (v : Value) (a : AV) (ow : Nat → Option (Nat × Nat)) : Prop :=
  match a with
  | .pagg l => (∃ cs, v = .agg cs ∧ PRs fp w cs.toList l) ∧ ∀ j, ow j = none
  | .agg l => (∃ cs, v = .agg cs ∧ cs.size = l.length ∧ ∀ (j : Nat) c u, l[j]? = some c → cs[j]? = some u → VR0 fp site w u c (ow j)) ∧ ∀ j, l.length ≤ j → ow j = none
  | a => VR0 fp site w v a (ow 0) ∧ ∀ j, 0 < j → ow j = none

def VR2 (fp : Nat → Nat → Prop) (site : Nat → Option Nat) (w : World) (v : Value) (a : AV) (ow : Nat → Option (Nat × Nat)) : Prop :=
  match a with
  | .tup l => (∃ vs, v = .tuple vs ∧ vs.size = l.length ∧ ∀ (j : Nat) c u, l[j]? = some c → vs[j]? = some u → VR1 fp site w u c (at0 (ow j))) ∧ ∀ j, l.length ≤ j → ow j = none
  | a => VR1 fp site w v a ow

theorem ownsRow_mono {w w' : World} {e sz : Nat} {v : Value} {n : Nat} {xs : List Value} (h : w.ownsRow 0 e sz v n xs) (hg : ∀ g, v.ownBlock = some g → w'.heap[g]? = w.heap[g]?) : w'.ownsRow 0 e sz v n xs := by
  refine ⟨h.1, ?_⟩
  rcases h.2 with h2 | ⟨g, cap, cur, rfl, hb, hc, r⟩
  · exact Or.inl h2
  · exact Or.inr ⟨g, cap, cur, rfl, hb, (hg g rfl).trans hc, r⟩

section mono
variable {fp fp' : Nat → Nat → Prop} {site site' : Nat → Option Nat} {w w' : World}
theorem VR0.mono (h : ∀ b o v, fp b o → w.cell? ⟨b, o, none⟩ = some v → fp' b o ∧ w'.cell? ⟨b, o, none⟩ = some v) (hs : ∀ x b, site x = some b → site' x = some b)
    {v : Value} {a : AV} {ow : Option (Nat × Nat)} (ho : ∀ g e, ow = some (g, e) → w'.heap[g]? = w.heap[g]?) (hv : VR0 fp site w v a ow) : VR0 fp' site' w' v a ow := by
  cases a with
  | undef => exact hv
  | none => exact hv
  | pv p => exact ⟨hv.1.mono h, hv.2⟩
  | os e sz es =>
    obtain ⟨xs, h1, h2, h3, h4, h5⟩ := hv
    refine ⟨xs, ownsRow_mono h1 fun g hg => ?_, h2.mono h, h3, h4, h5⟩
    rcases h5 with ⟨rfl, _⟩ | ⟨g', n, c, rfl, ho'⟩
    · cases hg
    · cases hg; exact ho _ _ ho'
  | ptr x off =>
    obtain ⟨⟨b, h1, h2⟩, h3⟩ := hv
    exact ⟨⟨b, hs _ _ h1, h2⟩, h3⟩
  | rp l =>
    obtain ⟨⟨b, o, h1, h2⟩, h3⟩ := hv
    refine ⟨⟨b, o, h1, fun j p hj => ?_⟩, h3⟩
    obtain ⟨a1, u, a2, a3⟩ := h2 j p hj
    obtain ⟨c1, c2⟩ := h _ _ _ a1 a2
    exact ⟨c1, u, c2, a3.mono h⟩
  | sr x off len sz =>
    obtain ⟨⟨b, c, h1, h2⟩, h3⟩ := hv
    exact ⟨⟨b, c, hs _ _ h1, h2⟩, h3⟩
  | fn f => exact hv
  | pagg l => exact hv
  | agg l => exact hv
  | tup l => exact hv

theorem VR1.mono (h : ∀ b o v, fp b o → w.cell? ⟨b, o, none⟩ = some v → fp' b o ∧ w'.cell? ⟨b, o, none⟩ = some v) (hs : ∀ x b, site x = some b → site' x = some b)
    {v : Value} {a : AV} {ow : Nat → Option (Nat × Nat)} (ho : ∀ j g e, ow j = some (g, e) → w'.heap[g]? = w.heap[g]?) (hv : VR1 fp site w v a ow) : VR1 fp' site' w' v a ow := by
  cases a
  case pagg l =>
    obtain ⟨⟨cs, h1, h2⟩, h3⟩ := hv
    exact ⟨⟨cs, h1, h2.mono h⟩, h3⟩
  case agg l =>
    obtain ⟨⟨cs, h1, h2, h3⟩, h4⟩ := hv
    exact ⟨⟨cs, h1, h2, fun j c u hc hu => (h3 j c u hc hu).mono h hs (ho j)⟩, h4⟩
  all_goals exact ⟨VR0.mono h hs (ho 0) hv.1, hv.2⟩

theorem VR2_eq {fp : Nat → Nat → Prop} {site : Nat → Option Nat} {w : World} {v : Value} {a : AV} {ow : Nat → Option (Nat × Nat)} (h : ∀ l, a ≠ .tup l) : VR2 fp site w v a ow = VR1 fp site w v a ow := by
  cases a <;> first | rfl | exact absurd rfl (h _)
theorem VR1_eq {fp : Nat → Nat → Prop} {site : Nat → Option Nat} {w : World} {v : Value} {a : AV} {ow : Nat → Option (Nat × Nat)} (h : ∀ l, a ≠ .pagg l) (h' : ∀ l, a ≠ .agg l) : VR1 fp site w v a ow = (VR0 fp site w v a (ow 0) ∧ ∀ j, 0 < j → ow j = none) := by
  cases a <;> first | rfl | exact absurd rfl (h _) | exact absurd rfl (h' _)

theorem VR2.mono (h : ∀ b o v, fp b o → w.cell? ⟨b, o, none⟩ = some v → fp' b o ∧ w'.cell? ⟨b, o, none⟩ = some v) (hs : ∀ x b, site x = some b → site' x = some b)
    {v : Value} {a : AV} {ow : Nat → Option (Nat × Nat)} (ho : ∀ j g e, ow j = some (g, e) → w'.heap[g]? = w.heap[g]?) (hv : VR2 fp site w v a ow) : VR2 fp' site' w' v a ow := by
  cases a
  case tup l =>
    obtain ⟨⟨cs, h1, h2, h3⟩, h4⟩ := hv
    refine ⟨⟨cs, h1, h2, fun j c u hc hu => (h3 j c u hc hu).mono h hs (fun i g e hi => ?_)⟩, h4⟩
    unfold at0 at hi
    split at hi
    · exact ho j g e hi
    · cases hi
  all_goals (rw [VR2_eq (by simp)] at hv ⊢; exact VR1.mono h hs ho hv)
end mono

/-- The ghost: where variables lie, and which blocks are owned from which cell on. -/
structure Gh where
  site : Nat → Option Nat
  own : Key → Nat → Option (Nat × Nat)

def Gh.safe (G : Gh) (b o : Nat) : Prop := (∀ x, G.site x ≠ some b) ∧ ∀ k j e, G.own k j = some (b, e) → o < e

/-- What a call was given: the world when it began; what it may read of that (besides what it was lent); the blocks that it was lent. -/
structure Ctx where
  w0 : World
  ok : Nat → Nat → Prop
  L : Nat → Prop

def fp (X : Ctx) (G : Gh) (b o : Nat) : Prop := (X.ok b o ∨ X.w0.heap.size ≤ b ∨ X.L b) ∧ G.safe b o

structure Frame (X : Ctx) (w : World) : Prop where
  os : w.os = X.w0.os
  tape : w.tape = X.w0.tape
  output : w.output = X.w0.output
  size : X.w0.heap.size ≤ w.heap.size
  block : ∀ b, b < X.w0.heap.size → ¬ X.L b → w.heap[b]? = X.w0.heap[b]?
  cell : ∀ b o, X.ok b o → w.cell? ⟨b, o, none⟩ = X.w0.cell? ⟨b, o, none⟩

def AV.isAgg : AV → Prop
  | .pagg _ => True
  | .agg _ => True
  | _ => False

def MR (fp : Nat → Nat → Prop) (site : Nat → Option Nat) (w : World) (c : AV) (bx : Option Nat) (ow : Nat → Option (Nat × Nat)) : Prop :=
  match c with
  | .undef => ∀ j, ow j = none
  | c => ∃ b cs e, bx = some b ∧ w.heap[b]? = some (.cells cs e (0, 0)) ∧ VR1 fp site w (.agg cs) c ow ∧ c.isAgg

structure Rel (X : Ctx) (G : Gh) (s : S) (a : Act) (w : World) : Prop where
  tmp : ∀ t, VR2 (fp X G) G.site w (a.tmps.getD t Go.undef) (s (.t t)) (G.own (.t t))
  mem : ∀ x, MR (fp X G) G.site w (s (.m x)) (G.site x) (G.own (.m x))
  ownI : ∀ k j k' j' b e e', G.own k j = some (b, e) → G.own k' j' = some (b, e') → k = k' ∧ j = j'
  ownS : ∀ k j b e x, G.own k j = some (b, e) → G.site x ≠ some b
  siteI : ∀ x y b, G.site x = some b → G.site y = some b → x = y
  siteF : ∀ x b, G.site x = some b → b < w.heap.size ∧ (X.w0.heap.size ≤ b ∨ (X.L b ∧ 1000 ≤ x))
  ownF : ∀ k j b e, G.own k j = some (b, e) → b < w.heap.size ∧ (X.w0.heap.size ≤ b ∨ X.L b)
  okS : ∀ b o, X.ok b o → G.safe b o
  okB : ∀ b o, X.ok b o → b < X.w0.heap.size
  fr : Frame X w
  df : a.defers = []

theorem MR.mono {fp fp' : Nat → Nat → Prop} {site site' : Nat → Option Nat} {w w' : World} (h : ∀ b o v, fp b o → w.cell? ⟨b, o, none⟩ = some v → fp' b o ∧ w'.cell? ⟨b, o, none⟩ = some v) (hs : ∀ x b, site x = some b → site' x = some b)
    {c : AV} {bx bx' : Option Nat} {ow : Nat → Option (Nat × Nat)} (hb : ∀ b, bx = some b → bx' = some b ∧ w'.heap[b]? = w.heap[b]?) (ho : ∀ j g e, ow j = some (g, e) → w'.heap[g]? = w.heap[g]?) (hv : MR fp site w c bx ow) : MR fp' site' w' c bx' ow := by
  cases c
  case undef => exact hv
  all_goals
    obtain ⟨b, cs, e, h1, h2, h3, h4⟩ := hv
    exact ⟨b, cs, e, (hb b h1).1, ((hb b h1).2).trans h2, VR1.mono h hs ho h3, h4⟩

theorem VR2.undef {fp : Nat → Nat → Prop} {site : Nat → Option Nat} {w : World} (v : Value) : VR2 fp site w v .undef (fun _ => none) := ⟨rfl, fun _ _ => rfl⟩

/-- The world stays; what is owned may have moved. -/
theorem Rel.same {X : Ctx} {G : Gh} {s s' : S} {a a' : Act} {w : World} (h : Rel X G s a w) (own' : Key → Nat → Option (Nat × Nat))
    (h1 : ∀ k j be, own' k j = some be → ∃ k0 j0, G.own k0 j0 = some be)
    (h2 : ∀ k j k' j' b e e', own' k j = some (b, e) → own' k' j' = some (b, e') → k = k' ∧ j = j')
    (ht : ∀ t, VR2 (fp X G) G.site w (a'.tmps.getD t Go.undef) (s' (.t t)) (own' (.t t)))
    (hm : ∀ x, MR (fp X G) G.site w (s' (.m x)) (G.site x) (own' (.m x)))
    (hd : a'.defers = []) : Rel X { G with own := own' } s' a' w := by
  have hsafe : ∀ b o, G.safe b o → Gh.safe { G with own := own' } b o := fun b o hs => ⟨hs.1, fun k j e he => by
    obtain ⟨k0, j0, h0⟩ := h1 k j _ he
    exact hs.2 k0 j0 e h0⟩
  have hfp : ∀ b o v, fp X G b o → w.cell? ⟨b, o, none⟩ = some v → fp X { G with own := own' } b o ∧ w.cell? ⟨b, o, none⟩ = some v := fun b o v hf hc => ⟨⟨hf.1, hsafe b o hf.2⟩, hc⟩
  refine ⟨fun t => (ht t).mono hfp (fun _ _ h => h) (fun _ _ _ _ => rfl), fun x => (hm x).mono hfp (fun _ _ h => h) (fun b hb => ⟨hb, rfl⟩) (fun _ _ _ _ => rfl), h2, fun k j b e x he => ?_, h.siteI, h.siteF, fun k j b e he => ?_, fun b o ho => hsafe b o (h.okS b o ho), h.okB, h.fr, hd⟩
  · obtain ⟨k0, j0, h0⟩ := h1 k j _ he
    exact h.ownS k0 j0 b e x h0
  · obtain ⟨k0, j0, h0⟩ := h1 k j _ he
    exact h.ownF k0 j0 b e h0

/-- Nothing is owned at a key any more. -/
def clr (own : Key → Nat → Option (Nat × Nat)) (k : Key) : Key → Nat → Option (Nat × Nat) := fun k' j => if k' = k then none else own k' j

theorem getD_put_same {a : Act} {d : Nat} (hd : d < a.tmps.size) (v : Value) : (a.put (some d) v).tmps.getD d Go.undef = v := by
  simp [Act.put, Array.getD, hd]
theorem getD_put_other {a : Act} {d t : Nat} (h : t ≠ d) (v : Value) : (a.put (some d) v).tmps.getD t Go.undef = a.tmps.getD t Go.undef := by
  simp only [Act.put, Array.getD_eq_getD_getElem?, Array.getElem?_setIfInBounds_ne (Ne.symm h)]
theorem put_size (a : Act) (d : Option Nat) (v : Value) : (a.put d v).tmps.size = a.tmps.size := by cases d <;> simp [Act.put]
theorem put_defers (a : Act) (d : Option Nat) (v : Value) : (a.put d v).defers = a.defers := by cases d <;> simp [Act.put]

theorem Rel.put {X : Ctx} {G : Gh} {s : S} {a : Act} {w : World} (h : Rel X G s a w) {d : Nat} (hd : d < a.tmps.size) {v : Value} {av : AV}
    (hv : VR2 (fp X G) G.site w v av (fun _ => none)) : Rel X { G with own := clr G.own (.t d) } (s.up (.t d) av) (a.put (some d) v) w := by
  refine h.same _ (fun k j be hb => ?_) (fun k j k' j' b e e' ha hb => ?_) (fun t => ?_) (fun x => ?_) ((put_defers _ _ _).trans h.df)
  · unfold clr at hb
    split at hb
    · cases hb
    · exact ⟨k, j, hb⟩
  · unfold clr at ha hb
    split at ha
    · cases ha
    · split at hb
      · cases hb
      · exact h.ownI _ _ _ _ _ _ _ ha hb
  · by_cases ht : t = d
    · subst ht
      rw [getD_put_same hd, S.up_same]
      have : clr G.own (.t t) (.t t) = fun _ => none := by funext j; simp [clr]
      rw [this]
      exact hv
    · rw [getD_put_other ht, S.up_other _ _ (by simp [ht])]
      have : clr G.own (.t d) (.t t) = G.own (.t t) := by funext j; simp [clr, ht]
      rw [this]
      exact h.tmp t
  · rw [S.up_other _ _ (by simp)]
    have : clr G.own (.t d) (.m x) = G.own (.m x) := by funext j; simp [clr]
    rw [this]
    exact h.mem x
end Go.Abs
