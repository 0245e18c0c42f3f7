/- The abstract machine: values, operations, and that the model's operations answer so. No condition. -/
import Derived.WalkKit
import Derived.ProofKit
import Derived.Below
import Derived.Laws.AppendOwn
import Derived.Maps.AppendAt
import Derived.Deep.MidRow
import Derived.Laws.IdiomCopy
import Derived.Orders
import Derived.Laws.Slices
import Derived.WalkSpells
import Derived.ChangeKeysEq
import Derived.Laws.CopyRow
set_option linter.unusedVariables false
set_option linter.unusedSimpArgs false
section
/- An abstract machine, its states and what they say of a world: pure values, slices by their contents, variables by names. No condition. -/
namespace Go.Abs

/-- Pure values: what cells hold, slices by their elements' cells. -/
inductive PV where
  | bool (b : Bool)
  | int (k : IntKind) (n : Int)
  | str (s : ByteArray)
  | nilp
  | nilm
  | sl (sz : Nat) (es : List (List PV))

/-- What a cell of a compared value is. -/
inductive CK where
  | i (k : IntKind)
  | b
  | s
  deriving DecidableEq

/-- What is known of a slot. -/
inductive AV where
  | undef
  | none
  | pv (p : PV)
  | os (e sz : Nat) (es : List (List PV))
  | ptr (x off : Nat)
  | rp (l : List PV)
  | sr (x off len sz : Nat)
  | fn (f : Nat)
  | e0
  | mp (x : Nat)
  | pagg (l : List PV)
  | agg (l : List AV)
  | tup (l : List AV)
  | mc (ag : Bool) (ks : List CK) (es : List (List PV × PV))

/-- A pure value as it stands in a map. -/
def pvV : PV → Value
  | .bool b => .bool b
  | .int k n => .int k n
  | .str s => .string s
  | _ => Go.undef
def keyV (ag : Bool) (l : List PV) : Value := if ag then .agg (l.map pvV).toArray else (match l with
  | [p] => pvV p
  | _ => Go.undef)
def ckOne : CK → PV → Bool
  | .i k, .int k' _ => decide (k' = k)
  | .b, .bool _ => true
  | .s, .str _ => true
  | _, _ => false
def ckAll : List CK → List PV → Bool
  | [], [] => true
  | c :: cs, p :: ps => ckOne c p && ckAll cs ps
  | _, _ => false

inductive Key where
  | t (n : Nat)
  | m (n : Nat)
  deriving DecidableEq

def S := Key → AV
def S.up (s : S) (k : Key) (v : AV) : S := fun j => if j = k then v else s j
def S.ups (s : S) : List (Key × AV) → S
  | [] => s
  | (k, v) :: r => S.ups (s.up k v) r
theorem S.up_same (s : S) (k : Key) (v : AV) : s.up k v k = v := by simp [S.up]
theorem S.up_other (s : S) {k j : Key} (v : AV) (h : j ≠ k) : s.up k v j = s j := by simp [S.up, h]

/-- The value is the pure one; each cell that is read lies where 'fp' holds. -/
inductive PR (fp : Nat → Nat → Prop) (w : World) : Value → PV → Prop
  | bool (b : Bool) : PR fp w (.bool b) (.bool b)
  | int (k : IntKind) (n : Int) : PR fp w (.int k n) (.int k n)
  | str (s : ByteArray) : PR fp w (.string s) (.str s)
  | nilp : PR fp w (.pointer none) .nilp
  | nilm : PR fp w (.map none) .nilm
  | sl0 (A : Option Addr) (c sz : Nat) : c ≤ maxLen → (A = none → c = 0) → PR fp w (.slice A 0 c) (.sl sz [])
  | sl (b o c sz : Nat) (es : List (List PV)) (f : Nat → Nat → Value) : es.length ≤ c → c ≤ maxLen → (∀ r ∈ es, r.length = sz) →
      (∀ i r j, es[i]? = some r → j < sz → fp b (o + i * sz + j) ∧ w.cell? ⟨b, o + i * sz + j, none⟩ = some (f i j)) →
      (∀ i r j p, es[i]? = some r → r[j]? = some p → PR fp w (f i j) p) → PR fp w (.slice (some ⟨b, o, none⟩) es.length c) (.sl sz es)

theorem PR.mono {fp fp' : Nat → Nat → Prop} {w w' : World} (h : ∀ b o v, fp b o → w.cell? ⟨b, o, none⟩ = some v → fp' b o ∧ w'.cell? ⟨b, o, none⟩ = some v)
    {v : Value} {p : PV} (hp : PR fp w v p) : PR fp' w' v p := by
  induction hp with
  | bool b => exact .bool b
  | int k n => exact .int k n
  | str s => exact .str s
  | nilp => exact .nilp
  | nilm => exact .nilm
  | sl0 A c sz h1 h2 => exact .sl0 A c sz h1 h2
  | sl b o c sz es f h1 h2 h3 h4 _ ih =>
    refine .sl b o c sz es f h1 h2 h3 (fun i r j hi hj => ?_) ih
    obtain ⟨a1, a2⟩ := h4 i r j hi hj
    exact h _ _ _ a1 a2

theorem PR.one {fp : Nat → Nat → Prop} {w : World} {v : Value} {p : PV} (h : PR fp w v p) : v.oneCell' = true := by cases h <;> rfl
theorem PR.cells {fp : Nat → Nat → Prop} {w : World} {v : Value} {p : PV} (h : PR fp w v p) : v.cells = #[v] := by cases h <;> rfl

def PRs (fp : Nat → Nat → Prop) (w : World) (vs : List Value) (ps : List PV) : Prop :=
  vs.length = ps.length ∧ ∀ (j : Nat) v p, vs[j]? = some v → ps[j]? = some p → PR fp w v p

theorem PRs.mono {fp fp' : Nat → Nat → Prop} {w w' : World} (h : ∀ b o v, fp b o → w.cell? ⟨b, o, none⟩ = some v → fp' b o ∧ w'.cell? ⟨b, o, none⟩ = some v)
    {vs : List Value} {ps : List PV} (hp : PRs fp w vs ps) : PRs fp' w' vs ps := ⟨hp.1, fun j v p a b => (hp.2 j v p a b).mono h⟩
theorem PRs.nil (fp : Nat → Nat → Prop) (w : World) : PRs fp w [] [] := ⟨rfl, fun j v p h => by simp at h⟩
theorem PRs.get {fp : Nat → Nat → Prop} {w : World} {vs : List Value} {ps : List PV} (h : PRs fp w vs ps) {j : Nat} {p : PV} (hp : ps[j]? = some p) : ∃ v, vs[j]? = some v ∧ PR fp w v p := by
  have hj : j < vs.length := by rw [h.1]; exact (List.getElem?_eq_some_iff.1 hp).1
  exact ⟨vs[j], List.getElem?_eq_getElem hj, h.2 j _ p (List.getElem?_eq_getElem hj) hp⟩
theorem PRs.getV {fp : Nat → Nat → Prop} {w : World} {vs : List Value} {ps : List PV} (h : PRs fp w vs ps) {j : Nat} {v : Value} (hv : vs[j]? = some v) : ∃ p, ps[j]? = some p ∧ PR fp w v p := by
  have hj : j < ps.length := by rw [← h.1]; exact (List.getElem?_eq_some_iff.1 hv).1
  exact ⟨ps[j], List.getElem?_eq_getElem hj, h.2 j v _ hv (List.getElem?_eq_getElem hj)⟩
theorem PRs.append {fp : Nat → Nat → Prop} {w : World} {vs vs' : List Value} {ps ps' : List PV} (h : PRs fp w vs ps) (h' : PRs fp w vs' ps') : PRs fp w (vs ++ vs') (ps ++ ps') := by
  refine ⟨by simp [h.1, h'.1], fun j v p a b => ?_⟩
  by_cases hj : j < vs.length
  · rw [List.getElem?_append_left hj] at a
    rw [List.getElem?_append_left (by rw [← h.1]; exact hj)] at b
    exact h.2 j v p a b
  · rw [List.getElem?_append_right (by omega)] at a
    rw [List.getElem?_append_right (by rw [← h.1]; omega), ← h.1] at b
    exact h'.2 _ v p a b
theorem PRs.take {fp : Nat → Nat → Prop} {w : World} {vs : List Value} {ps : List PV} (h : PRs fp w vs ps) (n : Nat) : PRs fp w (vs.take n) (ps.take n) := by
  refine ⟨by simp [h.1], fun j v p a b => ?_⟩
  rw [List.getElem?_take] at a b
  split at a
  · rename_i hj; rw [if_pos hj] at b; exact h.2 j v p a b
  · cases a
theorem PRs.drop {fp : Nat → Nat → Prop} {w : World} {vs : List Value} {ps : List PV} (h : PRs fp w vs ps) (n : Nat) : PRs fp w (vs.drop n) (ps.drop n) := by
  refine ⟨by simp [h.1], fun j v p a b => ?_⟩
  rw [List.getElem?_drop] at a b
  exact h.2 _ v p a b
theorem PRs.set {fp : Nat → Nat → Prop} {w : World} {vs : List Value} {ps : List PV} (h : PRs fp w vs ps) (n : Nat) {v : Value} {p : PV} (hp : PR fp w v p) : PRs fp w (vs.set n v) (ps.set n p) := by
  refine ⟨by simp [h.1], fun j u q a b => ?_⟩
  rw [List.getElem?_set] at a b
  split at a
  · rename_i hj
    subst hj
    rw [if_pos rfl] at b
    split at a
    · cases a
      split at b
      · cases b; exact hp
      · cases b
    · cases a
  · rename_i hj
    rw [if_neg hj] at b
    exact h.2 j u q a b
theorem PRs.one {fp : Nat → Nat → Prop} {w : World} {vs : List Value} {ps : List PV} (h : PRs fp w vs ps) : ∀ v ∈ vs, v.oneCell' = true := by
  intro v hv
  obtain ⟨j, hj⟩ := List.getElem?_of_mem hv
  obtain ⟨p, _, hp⟩ := h.getV hj
  exact hp.one

/-- A map's entries. -/
def MapR (fp : Nat → Nat → Prop) (w : World) (ents : Array MapEntry) (ag : Bool) (ks : List CK) (es : List (List PV × PV)) : Prop :=
  ents.size = es.length ∧ ∀ (j : Nat) e kv, ents[j]? = some e → es[j]? = some kv → e.key = keyV ag kv.1 ∧ ckAll ks kv.1 = true ∧ PR fp w e.val kv.2
theorem MapR.mono {fp fp' : Nat → Nat → Prop} {w w' : World} (h : ∀ b o v, fp b o → w.cell? ⟨b, o, none⟩ = some v → fp' b o ∧ w'.cell? ⟨b, o, none⟩ = some v)
    {ents : Array MapEntry} {ag : Bool} {ks : List CK} {es : List (List PV × PV)} (hm : MapR fp w ents ag ks es) : MapR fp' w' ents ag ks es :=
  ⟨hm.1, fun j e kv h1 h2 => ⟨(hm.2 j e kv h1 h2).1, (hm.2 j e kv h1 h2).2.1, (hm.2 j e kv h1 h2).2.2.mono h⟩⟩

/-- A slice whose block the call owns from its end on. -/
def OSR (fp : Nat → Nat → Prop) (w : World) (v : Value) (e sz : Nat) (es : List (List PV)) (ow : Option (Nat × Nat)) : Prop :=
  ∃ xs, w.ownsRow 0 e sz v es.length xs ∧ PRs fp w xs es.flatten ∧ (∀ r ∈ es, r.length = sz) ∧ 0 < sz ∧
    ((v = .slice none 0 0 ∧ ow = none) ∨ ∃ g n c, v = .slice (some ⟨g, 0, none⟩) n c ∧ ow = some (g, es.length * sz))

/-- Scalars. -/
def VR0 (fp : Nat → Nat → Prop) (site : Nat → Option Nat) (w : World) (v : Value) (a : AV) (ow : Option (Nat × Nat)) : Prop :=
  match a with
  | .undef => ow = none
  | .none => v = Go.undef ∧ ow = none
  | .pv p => PR fp w v p ∧ ow = none
  | .os e sz es => OSR fp w v e sz es ow
  | .ptr x off => (∃ b, site x = some b ∧ v = .pointer (some ⟨b, off, none⟩)) ∧ ow = none
  | .rp l => (∃ b o, v = .pointer (some ⟨b, o, none⟩) ∧ ∀ (j : Nat) p, l[j]? = some p → fp b (o + j) ∧ ∃ u, w.cell? ⟨b, o + j, none⟩ = some u ∧ PR fp w u p) ∧ ow = none
  | .sr x off len _ => (∃ b c, site x = some b ∧ v = .slice (some ⟨b, off, none⟩) len c ∧ len ≤ c ∧ c ≤ maxLen) ∧ ow = none
  | .fn f => v = .func (.func f) #[] #[] ∧ ow = none
  | .e0 => (∃ A, v = .slice A 0 0) ∧ ow = none
  | .mp x => (∃ b, site x = some b ∧ v = .map (some b)) ∧ ow = none
  | _ => False

def at0 (o : Option (Nat × Nat)) (j : Nat) : Option (Nat × Nat) := if j = 0 then o else none

def VR1 (fp : Nat → Nat → Prop) (site : Nat → Option Nat) (w : World) (v : Value) (a : AV) (ow : Nat → Option (Nat × Nat)) : Prop :=
  match a with
  | .pagg l => (∃ cs, v = .agg cs ∧ PRs fp w cs.toList l) ∧ ∀ j, ow j = none
  | .agg l => (∃ cs, v = .agg cs ∧ cs.size = l.length ∧ ∀ (j : Nat) c u, l[j]? = some c → cs[j]? = some u → VR0 fp site w u c (ow j)) ∧ ∀ j, l.length ≤ j → ow j = none
  | a => VR0 fp site w v a (ow 0) ∧ ∀ j, 0 < j → ow j = none

def VR2 (fp : Nat → Nat → Prop) (site : Nat → Option Nat) (w : World) (v : Value) (a : AV) (ow : Nat → Option (Nat × Nat)) : Prop :=
  match a with
  | .tup l => (∃ vs, v = .tuple vs ∧ vs.size = l.length ∧ ∀ (j : Nat) c u, l[j]? = some c → vs[j]? = some u → VR1 fp site w u c (at0 (ow j))) ∧ ∀ j, l.length ≤ j → ow j = none
  | a => VR1 fp site w v a ow

theorem ownsRow_mono {w w' : World} {e sz : Nat} {v : Value} {n : Nat} {xs : List Value} (h : w.ownsRow 0 e sz v n xs) (hg : ∀ g, v.ownBlock = some g → w'.heap[g]? = w.heap[g]?) : w'.ownsRow 0 e sz v n xs := by
  refine ⟨h.1, ?_⟩
  rcases h.2 with h2 | ⟨g, cap, cur, rfl, hb, hc, r⟩
  · exact Or.inl h2
  · exact Or.inr ⟨g, cap, cur, rfl, hb, (hg g rfl).trans hc, r⟩

section mono
variable {fp fp' : Nat → Nat → Prop} {site site' : Nat → Option Nat} {w w' : World}
theorem VR0.mono (h : ∀ b o v, fp b o → w.cell? ⟨b, o, none⟩ = some v → fp' b o ∧ w'.cell? ⟨b, o, none⟩ = some v) (hs : ∀ x b, site x = some b → site' x = some b)
    {v : Value} {a : AV} {ow : Option (Nat × Nat)} (ho : ∀ g e, ow = some (g, e) → w'.heap[g]? = w.heap[g]?) (hv : VR0 fp site w v a ow) : VR0 fp' site' w' v a ow := by
  cases a with
  | undef => exact hv
  | none => exact hv
  | pv p => exact ⟨hv.1.mono h, hv.2⟩
  | os e sz es =>
    obtain ⟨xs, h1, h2, h3, h4, h5⟩ := hv
    refine ⟨xs, ownsRow_mono h1 fun g hg => ?_, h2.mono h, h3, h4, h5⟩
    rcases h5 with ⟨rfl, _⟩ | ⟨g', n, c, rfl, ho'⟩
    · cases hg
    · cases hg; exact ho _ _ ho'
  | ptr x off =>
    obtain ⟨⟨b, h1, h2⟩, h3⟩ := hv
    exact ⟨⟨b, hs _ _ h1, h2⟩, h3⟩
  | rp l =>
    obtain ⟨⟨b, o, h1, h2⟩, h3⟩ := hv
    refine ⟨⟨b, o, h1, fun j p hj => ?_⟩, h3⟩
    obtain ⟨a1, u, a2, a3⟩ := h2 j p hj
    obtain ⟨c1, c2⟩ := h _ _ _ a1 a2
    exact ⟨c1, u, c2, a3.mono h⟩
  | sr x off len sz =>
    obtain ⟨⟨b, c, h1, h2⟩, h3⟩ := hv
    exact ⟨⟨b, c, hs _ _ h1, h2⟩, h3⟩
  | fn f => exact hv
  | e0 => exact hv
  | mp x =>
    obtain ⟨⟨b, h1, h2⟩, h3⟩ := hv
    exact ⟨⟨b, hs _ _ h1, h2⟩, h3⟩
  | pagg l => exact hv
  | agg l => exact hv
  | tup l => exact hv
  | mc ag ks es => exact hv

theorem VR1.mono (h : ∀ b o v, fp b o → w.cell? ⟨b, o, none⟩ = some v → fp' b o ∧ w'.cell? ⟨b, o, none⟩ = some v) (hs : ∀ x b, site x = some b → site' x = some b)
    {v : Value} {a : AV} {ow : Nat → Option (Nat × Nat)} (ho : ∀ j g e, ow j = some (g, e) → w'.heap[g]? = w.heap[g]?) (hv : VR1 fp site w v a ow) : VR1 fp' site' w' v a ow := by
  cases a
  case pagg l =>
    obtain ⟨⟨cs, h1, h2⟩, h3⟩ := hv
    exact ⟨⟨cs, h1, h2.mono h⟩, h3⟩
  case agg l =>
    obtain ⟨⟨cs, h1, h2, h3⟩, h4⟩ := hv
    exact ⟨⟨cs, h1, h2, fun j c u hc hu => (h3 j c u hc hu).mono h hs (ho j)⟩, h4⟩
  all_goals exact ⟨VR0.mono h hs (ho 0) hv.1, hv.2⟩

theorem VR2_eq {fp : Nat → Nat → Prop} {site : Nat → Option Nat} {w : World} {v : Value} {a : AV} {ow : Nat → Option (Nat × Nat)} (h : ∀ l, a ≠ .tup l) : VR2 fp site w v a ow = VR1 fp site w v a ow := by
  cases a <;> first | rfl | exact absurd rfl (h _)
theorem VR1_eq {fp : Nat → Nat → Prop} {site : Nat → Option Nat} {w : World} {v : Value} {a : AV} {ow : Nat → Option (Nat × Nat)} (h : ∀ l, a ≠ .pagg l) (h' : ∀ l, a ≠ .agg l) : VR1 fp site w v a ow = (VR0 fp site w v a (ow 0) ∧ ∀ j, 0 < j → ow j = none) := by
  cases a <;> first | rfl | exact absurd rfl (h _) | exact absurd rfl (h' _)

theorem VR2.mono (h : ∀ b o v, fp b o → w.cell? ⟨b, o, none⟩ = some v → fp' b o ∧ w'.cell? ⟨b, o, none⟩ = some v) (hs : ∀ x b, site x = some b → site' x = some b)
    {v : Value} {a : AV} {ow : Nat → Option (Nat × Nat)} (ho : ∀ j g e, ow j = some (g, e) → w'.heap[g]? = w.heap[g]?) (hv : VR2 fp site w v a ow) : VR2 fp' site' w' v a ow := by
  cases a
  case tup l =>
    obtain ⟨⟨cs, h1, h2, h3⟩, h4⟩ := hv
    refine ⟨⟨cs, h1, h2, fun j c u hc hu => (h3 j c u hc hu).mono h hs (fun i g e hi => ?_)⟩, h4⟩
    unfold at0 at hi
    split at hi
    · exact ho j g e hi
    · cases hi
  all_goals (rw [VR2_eq (by simp)] at hv ⊢; exact VR1.mono h hs ho hv)
end mono

/-- The ghost: where variables lie, and which blocks are owned from which cell on. -/
structure Gh where
  site : Nat → Option Nat
  own : Key → Nat → Option (Nat × Nat)

def Gh.safe (G : Gh) (b o : Nat) : Prop := (∀ x, G.site x ≠ some b) ∧ ∀ k j e, G.own k j = some (b, e) → o < e

/-- What a call was given: the world when it began; what it may read of that (besides what it was lent); the blocks that it was lent. -/
structure Ctx where
  w0 : World
  ok : Nat → Nat → Prop
  L : Nat → Prop
  ds : List Deferred

def fp (X : Ctx) (G : Gh) (b o : Nat) : Prop := (X.ok b o ∨ X.w0.heap.size ≤ b ∨ X.L b) ∧ G.safe b o

structure Frame (X : Ctx) (w : World) : Prop where
  os : w.os = X.w0.os
  tape : w.tape = X.w0.tape
  output : w.output = X.w0.output
  size : X.w0.heap.size ≤ w.heap.size
  block : ∀ b, b < X.w0.heap.size → ¬ X.L b → w.heap[b]? = X.w0.heap[b]?
  cell : ∀ b o, X.ok b o → w.cell? ⟨b, o, none⟩ = X.w0.cell? ⟨b, o, none⟩

/-- The content of a variable. -/
def AV.isObj : AV → Prop
  | .pagg _ => True
  | .agg _ => True
  | .mc _ _ _ => True
  | _ => False
def AV.isAgg : AV → Prop
  | .pagg _ => True
  | .agg _ => True
  | _ => False

/-- The stamps of a map's entries are below its clock, and differ. -/
def St (ents : Array MapEntry) (clk : Nat) : Prop := (∀ x ∈ ents.toList, x.born < clk) ∧ (ents.toList.map (·.born)).Nodup
theorem St.empty : St #[] 0 := ⟨fun x hx => by simp at hx, by simp⟩
theorem St.push {es : Array MapEntry} {c : Nat} (h : St es c) (k v : Value) : St (es.push { key := k, val := v, born := c }) (c + 1) := by
  refine ⟨fun x hx => ?_, ?_⟩
  · rw [Array.toList_push, List.mem_append, List.mem_singleton] at hx
    rcases hx with hx | rfl
    · exact Nat.lt_succ_of_lt (h.1 x hx)
    · exact Nat.lt_succ_self _
  · rw [Array.toList_push, List.map_append, List.nodup_append]
    refine ⟨h.2, by simp, fun a ha b hb => ?_⟩
    obtain ⟨x, hx, rfl⟩ := List.mem_map.1 ha
    simp at hb
    subst hb
    exact Nat.ne_of_lt (h.1 x hx)
theorem St.sub {es es' : Array MapEntry} {c : Nat} (h : St es c) (hs : (es'.toList.map (·.born)).Sublist (es.toList.map (·.born))) : St es' c := by
  refine ⟨fun x hx => ?_, hs.nodup h.2⟩
  obtain ⟨y, hy, e⟩ := List.mem_map.1 (hs.subset (List.mem_map.2 ⟨x, hx, rfl⟩))
  rw [← e]
  exact h.1 y hy
theorem St.modify {es : Array MapEntry} {c : Nat} (h : St es c) (j : Nat) (f : MapEntry → MapEntry) (hf : ∀ e, (f e).born = e.born) : St (es.modify j f) c := by
  have e : (es.modify j f).toList.map (·.born) = es.toList.map (·.born) := by
    apply List.ext_getElem?
    intro i
    rw [List.getElem?_map, List.getElem?_map, Array.getElem?_toList, Array.getElem?_toList, Array.getElem?_modify]
    split
    · cases es[i]? <;> simp [hf]
    · rfl
  exact h.sub (by rw [e]; exact List.Sublist.refl _)
def MR (fp : Nat → Nat → Prop) (site : Nat → Option Nat) (w : World) (c : AV) (bx : Option Nat) (ow : Nat → Option (Nat × Nat)) : Prop :=
  match c with
  | .undef => ∀ j, ow j = none
  | .mc ag ks es => ∃ b ents clk, bx = some b ∧ w.heap[b]? = some (.map ents clk) ∧ MapR fp w ents ag ks es ∧ (∀ j, ow j = none) ∧ St ents clk
  | c => ∃ b cs rest e, bx = some b ∧ w.heap[b]? = some (.cells (cs ++ rest) e (0, 0)) ∧ VR1 fp site w (.agg cs) c ow ∧ c.isAgg

structure Rel (X : Ctx) (G : Gh) (s : S) (a : Act) (w : World) : Prop where
  tmp : ∀ t, VR2 (fp X G) G.site w (a.tmps.getD t Go.undef) (s (.t t)) (G.own (.t t))
  mem : ∀ x, MR (fp X G) G.site w (s (.m x)) (G.site x) (G.own (.m x))
  ownI : ∀ k j k' j' b e e', G.own k j = some (b, e) → G.own k' j' = some (b, e') → k = k' ∧ j = j'
  ownS : ∀ k j b e x, G.own k j = some (b, e) → G.site x ≠ some b
  siteI : ∀ x y b, G.site x = some b → G.site y = some b → x = y
  siteF : ∀ x b, G.site x = some b → b < w.heap.size ∧ (X.w0.heap.size ≤ b ∨ (X.L b ∧ 1000 ≤ x))
  ownF : ∀ k j b e, G.own k j = some (b, e) → b < w.heap.size ∧ (X.w0.heap.size ≤ b ∨ X.L b)
  okS : ∀ b o, X.ok b o → G.safe b o
  okB : ∀ b o, X.ok b o → b < X.w0.heap.size
  fr : Frame X w
  df : a.defers = X.ds

theorem MR.mono {fp fp' : Nat → Nat → Prop} {site site' : Nat → Option Nat} {w w' : World} (h : ∀ b o v, fp b o → w.cell? ⟨b, o, none⟩ = some v → fp' b o ∧ w'.cell? ⟨b, o, none⟩ = some v) (hs : ∀ x b, site x = some b → site' x = some b)
    {c : AV} {bx bx' : Option Nat} {ow : Nat → Option (Nat × Nat)} (hb : ∀ b, bx = some b → bx' = some b ∧ w'.heap[b]? = w.heap[b]?) (ho : ∀ j g e, ow j = some (g, e) → w'.heap[g]? = w.heap[g]?) (hv : MR fp site w c bx ow) : MR fp' site' w' c bx' ow := by
  cases c
  case undef => exact hv
  case mc ag ks es =>
    obtain ⟨b, ents, clk, h1, h2, h3, h4⟩ := hv
    exact ⟨b, ents, clk, (hb b h1).1, ((hb b h1).2).trans h2, h3.mono h, h4⟩
  all_goals
    obtain ⟨b, cs, rest, e, h1, h2, h3, h4⟩ := hv
    exact ⟨b, cs, rest, e, (hb b h1).1, ((hb b h1).2).trans h2, VR1.mono h hs ho h3, h4⟩

theorem VR2.undef {fp : Nat → Nat → Prop} {site : Nat → Option Nat} {w : World} (v : Value) : VR2 fp site w v .undef (fun _ => none) := ⟨rfl, fun _ _ => rfl⟩

/-- The world stays; what is owned may have moved. -/
theorem Rel.same {X : Ctx} {G : Gh} {s s' : S} {a a' : Act} {w : World} (h : Rel X G s a w) (own' : Key → Nat → Option (Nat × Nat))
    (h1 : ∀ k j be, own' k j = some be → ∃ k0 j0, G.own k0 j0 = some be)
    (h2 : ∀ k j k' j' b e e', own' k j = some (b, e) → own' k' j' = some (b, e') → k = k' ∧ j = j')
    (ht : ∀ t, VR2 (fp X G) G.site w (a'.tmps.getD t Go.undef) (s' (.t t)) (own' (.t t)))
    (hm : ∀ x, MR (fp X G) G.site w (s' (.m x)) (G.site x) (own' (.m x)))
    (hd : a'.defers = X.ds) : Rel X { G with own := own' } s' a' w := by
  have hsafe : ∀ b o, G.safe b o → Gh.safe { G with own := own' } b o := fun b o hs => ⟨hs.1, fun k j e he => by
    obtain ⟨k0, j0, h0⟩ := h1 k j _ he
    exact hs.2 k0 j0 e h0⟩
  have hfp : ∀ b o v, fp X G b o → w.cell? ⟨b, o, none⟩ = some v → fp X { G with own := own' } b o ∧ w.cell? ⟨b, o, none⟩ = some v := fun b o v hf hc => ⟨⟨hf.1, hsafe b o hf.2⟩, hc⟩
  refine ⟨fun t => (ht t).mono hfp (fun _ _ h => h) (fun _ _ _ _ => rfl), fun x => (hm x).mono hfp (fun _ _ h => h) (fun b hb => ⟨hb, rfl⟩) (fun _ _ _ _ => rfl), h2, fun k j b e x he => ?_, h.siteI, h.siteF, fun k j b e he => ?_, fun b o ho => hsafe b o (h.okS b o ho), h.okB, h.fr, hd⟩
  · obtain ⟨k0, j0, h0⟩ := h1 k j _ he
    exact h.ownS k0 j0 b e x h0
  · obtain ⟨k0, j0, h0⟩ := h1 k j _ he
    exact h.ownF k0 j0 b e h0

/-- Nothing is owned at a key any more. -/
def clr (own : Key → Nat → Option (Nat × Nat)) (k : Key) : Key → Nat → Option (Nat × Nat) := fun k' j => if k' = k then none else own k' j

theorem getD_put_same {a : Act} {d : Nat} (hd : d < a.tmps.size) (v : Value) : (a.put (some d) v).tmps.getD d Go.undef = v := by
  simp [Act.put, Array.getD, hd]
theorem getD_put_other {a : Act} {d t : Nat} (h : t ≠ d) (v : Value) : (a.put (some d) v).tmps.getD t Go.undef = a.tmps.getD t Go.undef := by
  simp only [Act.put, Array.getD_eq_getD_getElem?, Array.getElem?_setIfInBounds_ne (Ne.symm h)]
theorem put_size (a : Act) (d : Option Nat) (v : Value) : (a.put d v).tmps.size = a.tmps.size := by cases d <;> simp [Act.put]
theorem put_defers (a : Act) (d : Option Nat) (v : Value) : (a.put d v).defers = a.defers := by cases d <;> simp [Act.put]

theorem Rel.put {X : Ctx} {G : Gh} {s : S} {a : Act} {w : World} (h : Rel X G s a w) {d : Nat} (hd : d < a.tmps.size) {v : Value} {av : AV}
    (hv : VR2 (fp X G) G.site w v av (fun _ => none)) : Rel X { G with own := clr G.own (.t d) } (s.up (.t d) av) (a.put (some d) v) w := by
  refine h.same _ (fun k j be hb => ?_) (fun k j k' j' b e e' ha hb => ?_) (fun t => ?_) (fun x => ?_) ((put_defers _ _ _).trans h.df)
  · unfold clr at hb
    split at hb
    · cases hb
    · exact ⟨k, j, hb⟩
  · unfold clr at ha hb
    split at ha
    · cases ha
    · split at hb
      · cases hb
      · exact h.ownI _ _ _ _ _ _ _ ha hb
  · by_cases ht : t = d
    · subst ht
      rw [getD_put_same hd, S.up_same]
      have : clr G.own (.t t) (.t t) = fun _ => none := by funext j; simp [clr]
      rw [this]
      exact hv
    · rw [getD_put_other ht, S.up_other _ _ (by simp [ht])]
      have : clr G.own (.t d) (.t t) = G.own (.t t) := by funext j; simp [clr, ht]
      rw [this]
      exact h.tmp t
  · rw [S.up_other _ _ (by simp)]
    have : clr G.own (.t d) (.m x) = G.own (.m x) := by funext j; simp [clr]
    rw [this]
    exact h.mem x
end Go.Abs
end

section
/- The abstract machine's operations that only compute: what they answer, and that the model's operations answer so. No condition. -/
namespace Go.Abs

def AV.dem0 : AV → AV
  | .os _ sz es => .pv (.sl sz es)
  | a => a
def AV.dem1 : AV → AV
  | .agg l => .agg (l.map AV.dem0)
  | a => a.dem0
def AV.dem2 : AV → AV
  | .tup l => .tup (l.map AV.dem1)
  | a => a.dem1

inductive Opd where
  | t (n : Nat)
  | c (v : AV)
def ev (s : S) : Opd → AV
  | .t n => s (.t n)
  | .c v => v
/-- As an operand of what only computes. -/
def evd (s : S) : Opd → AV
  | .t n => (s (.t n)).dem2
  | .c v => v

/-- Operations that only compute. -/
inductive POp where
  | id
  | pick
  | bin (op : BinOp)
  | beq (neg : Bool)
  | peq (neg : Bool)
  | aeq (neg : Bool) (n : Nat) (k : IntKind)
  | seq (neg : Bool) (ks : List CK)
  | sidx
  | sb (op : BinOp)
  | slen
  | un (op : UnOp)
  | conv (k : IntKind)
  | field (off : Nat) (n : Option Nat)
  | index (len sz : Nat) (n : Option Nat)
  | fieldAddr (off : Nat)
  | indexAddr (arr : Option Nat) (sz : Nat)
  | slice (arr : Option Nat) (sz : Nat) (lo hi : Bool)
  | s2ap (n : Nat)
  | len (arr : Option Nat)
  | mm (isMax : Bool)
  | ext (i : Nat)
  | nilc

def ibin (op : BinOp) (k : IntKind) (a b : Int) : Option (Prop × PV) :=
  match op with
  | .add => some (True, .int k (k.wrap (a + b)))
  | .sub => some (True, .int k (k.wrap (a - b)))
  | .mul => some (True, .int k (k.wrap (a * b)))
  | .quo => some (b ≠ 0, .int k (k.wrap (a.tdiv b)))
  | .rem => some (b ≠ 0, .int k (a.tmod b))
  | .and => some (True, .int k (bits .and k a b))
  | .or => some (True, .int k (bits .or k a b))
  | .xor => some (True, .int k (bits .xor k a b))
  | .andNot => some (True, .int k (bits .andNot k a b))
  | .eql => some (True, .bool (a == b))
  | .neq => some (True, .bool (a != b))
  | .lss => some (True, .bool (decide (a < b)))
  | .leq => some (True, .bool (decide (a ≤ b)))
  | .gtr => some (True, .bool (decide (b < a)))
  | .geq => some (True, .bool (decide (b ≤ a)))
  | .shl => none
  | .shr => none

def sbin (op : BinOp) (k : IntKind) (a b : Int) : Option (Prop × PV) :=
  match op with
  | .shl => some (0 ≤ b, .int k (k.wrap (a * 2 ^ (min b.toNat k.bits))))
  | .shr => some (0 ≤ b, .int k (a.fdiv (2 ^ (min b.toNat k.bits))))
  | _ => none

def isShift : BinOp → Bool
  | .shl => true
  | .shr => true
  | _ => false

/-- A cell of an aggregate. -/
def getc : AV → Nat → Option AV
  | .pagg l, j => (l[j]?).map AV.pv
  | .agg l, j => (l[j]?).map AV.dem0
  | .rp l, j => (l[j]?).map AV.pv
  | _, _ => none
/-- Cells that are all pure are told so. -/
def allPV : List AV → Option (List PV)
  | [] => some []
  | .pv p :: r => (allPV r).map (p :: ·)
  | _ :: _ => none
def normA (l : List AV) : AV := match allPV l with
  | some ps => .pagg ps
  | none => .agg l
/-- A run of an aggregate's cells. -/
def getr : AV → Nat → Nat → Option AV
  | .pagg l, o, n => some (.pagg ((l.drop o).take n))
  | .agg l, o, n => some (normA (((l.drop o).take n).map AV.dem0))
  | .rp l, o, n => some (.pagg ((l.drop o).take n))
  | _, _, _ => none
def part1 (a : AV) (o : Nat) : Option Nat → Option AV
  | none => getc a o
  | some n => getr a o n

def pvPick : List AV → Option (Prop × AV)
  | [.pv (.bool c), x, y] => some (True, if c then x else y)
  | _ => none
def pvBin (op : BinOp) : List AV → Option (Prop × AV)
  | [.pv (.int k a), .pv (.int k' b)] =>
    if isShift op then (sbin op k a b).map fun (c, p) => (c, .pv p)
    else if k = k' then (ibin op k a b).map fun (c, p) => (c, .pv p) else none
  | _ => none
def pvBeq (neg : Bool) : List AV → Option (Prop × AV)
  | [.pv (.bool a), .pv (.bool b)] => some (True, .pv (.bool (if neg then a != b else a == b)))
  | _ => none
def pvPeq (neg : Bool) : List AV → Option (Prop × AV)
  | [.pv .nilp, .pv .nilp] => some (True, .pv (.bool (!neg)))
  | [.ptr _ _, .pv .nilp] => some (True, .pv (.bool neg))
  | [.rp _, .pv .nilp] => some (True, .pv (.bool neg))
  | _ => none
def kPV (k : IntKind) : PV → Bool
  | .int k' _ => decide (k' = k)
  | _ => false
def eqPV : PV → PV → Bool
  | .int _ a, .int _ b => a == b
  | .bool a, .bool b => a == b
  | .str a, .str b => a == b
  | _, _ => false
def eqPVs : List PV → List PV → Bool
  | [], [] => true
  | a :: l, b :: m => eqPV a b && eqPVs l m
  | _, _ => false
def pvAeq (neg : Bool) (n : Nat) (k : IntKind) : List AV → Option (Prop × AV)
  | [.pagg l, .pagg m] => some (l.length = n ∧ m.length = n ∧ l.all (kPV k) = true ∧ m.all (kPV k) = true, .pv (.bool (if neg then !eqPVs l m else eqPVs l m)))
  | _ => none
def pvSeq (neg : Bool) (ks : List CK) : List AV → Option (Prop × AV)
  | [.pagg l, .pagg m] => some (ckAll ks l = true ∧ ckAll ks m = true, .pv (.bool (if neg then !eqPVs l m else eqPVs l m)))
  | _ => none
/-- Strings: put together, compared, their length. -/
def pvSb (op : BinOp) : List AV → Option (Prop × AV)
  | [.pv (.str a), .pv (.str b)] => match op with
    | .add => some (a.size + b.size ≤ 1000000, .pv (.str (a ++ b)))
    | .eql => some (True, .pv (.bool (a.toList == b.toList)))
    | .neq => some (True, .pv (.bool !(a.toList == b.toList)))
    | _ => none
  | _ => none
def pvSlen : List AV → Option (Prop × AV)
  | [.pv (.str a)] => some (True, .pv (.int .i64 (a.size : Nat)))
  | _ => none
def pvSidx : List AV → Option (Prop × AV)
  | [.pv (.str b), .pv (.int _ i)] => some (0 ≤ i ∧ i < (b.data.size : Int), .pv (.int .u8 ((b.data.getD i.toNat 0).toNat : Nat)))
  | _ => none
def pvUn (op : UnOp) : List AV → Option (Prop × AV)
  | [.pv (.bool b)] => if op = .not then some (True, .pv (.bool !b)) else none
  | [.pv (.int k n)] => if op = .neg then some (True, .pv (.int k (k.wrap (0 - n)))) else if op = .xor then some (True, .pv (.int k (bits .xor k (if k.signed then -1 else k.max) n))) else none
  | _ => none
def pvConv (k : IntKind) : List AV → Option (Prop × AV)
  | [.pv (.int _ n)] => some (True, .pv (.int k (k.wrap n)))
  | _ => none
def pvField (o : Nat) (n : Option Nat) : List AV → Option (Prop × AV)
  | [.pagg l] => (part1 (.pagg l) o n).map fun r => (True, r)
  | [.agg l] => (part1 (.agg l) o n).map fun r => (True, r)
  | _ => none
def pvIndex (len sz : Nat) (n : Option Nat) : List AV → Option (Prop × AV)
  | [.pagg l, .pv (.int _ i)] => (part1 (.pagg l) (i.toNat * sz) n).map fun r => (0 ≤ i ∧ i < len, r)
  | [.agg l, .pv (.int _ i)] => (part1 (.agg l) (i.toNat * sz) n).map fun r => (0 ≤ i ∧ i < len, r)
  | _ => none
def pvFieldAddr (o : Nat) : List AV → Option (Prop × AV)
  | [.ptr x p] => some (True, .ptr x (p + o))
  | [.rp l] => some (True, .rp (l.drop o))
  | _ => none
def pvIndexArr (n sz : Nat) : List AV → Option (Prop × AV)
  | [.ptr x p, .pv (.int _ i)] => some (0 ≤ i ∧ i < n, .ptr x (p + i.toNat * sz))
  | [.rp l, .pv (.int _ i)] => some (0 ≤ i ∧ i < n, .rp (l.drop (i.toNat * sz)))
  | _ => none
def pvIndexSl (sz : Nat) : List AV → Option (Prop × AV)
  | [.pv (.sl sz' es), .pv (.int _ i)] => match es[i.toNat]? with
    | some r => some (0 ≤ i ∧ sz' = sz, .rp r)
    | none => none
  | [.sr x o len sz', .pv (.int _ i)] => some (0 ≤ i ∧ i < len ∧ sz' = sz, .ptr x (o + i.toNat * sz))
  | _ => none
/-- The bounds of a slice expression. -/
def bnds (n : Nat) (lo hi : Bool) : List AV → Option (Prop × Nat × Nat)
  | [] => if lo = false ∧ hi = false then some (True, 0, n) else none
  | [.pv (.int _ i)] => if lo = true ∧ hi = false then some (0 ≤ i ∧ i ≤ n, i.toNat, n) else if lo = false ∧ hi = true then some (0 ≤ i ∧ i ≤ n, 0, i.toNat) else none
  | [.pv (.int _ i), .pv (.int _ j)] => if lo = true ∧ hi = true then some (0 ≤ i ∧ i ≤ j ∧ j ≤ n, i.toNat, j.toNat) else none
  | _ => none
def pvSliceSl (sz : Nat) (lo hi : Bool) : List AV → Option (Prop × AV)
  | .pv (.sl sz' es) :: r => (bnds es.length lo hi r).map fun (c, a, b) => (sz' = sz ∧ c, .pv (.sl sz ((es.take b).drop a)))
  | .sr x o n sz' :: r => (bnds n lo hi r).map fun (c, a, b) => (sz' = sz ∧ c ∧ a < n, .sr x (o + a * sz) (b - a) sz)
  | _ => none
def pvSliceArr (n sz : Nat) (lo hi : Bool) : List AV → Option (Prop × AV)
  | .ptr x o :: r => (bnds n lo hi r).map fun (c, a, b) => (c ∧ a < n, .sr x (o + a * sz) (b - a) sz)
  | .rp l :: r => (bnds n lo hi r).map fun (c, a, b) => (c ∧ a < n ∧ sz = 1 ∧ l.length = n, .pv (.sl 1 (((l.take b).drop a).map fun p => [p])))
  | _ => none
def pvS2ap (n : Nat) : List AV → Option (Prop × AV)
  | [.sr x o len _] => some (n ≤ len, .ptr x o)
  | [.pv (.sl _ es)] => some (n ≤ es.length ∧ 0 < es.length, .rp es.flatten)
  | _ => none
def pvLen (arr : Option Nat) : List AV → Option (Prop × AV)
  | [.pv (.sl _ es)] => if arr = none then some (True, .pv (.int .i64 es.length)) else none
  | [.sr _ _ n _] => if arr = none then some (True, .pv (.int .i64 n)) else none
  | [_] => match arr with
    | some n => some (True, .pv (.int .i64 n))
    | none => none
  | _ => none
def pvMm (isMax : Bool) : List AV → Option (Prop × AV)
  | [.pv (.int k a), .pv (.int k' b)] => if k = k' then some (True, .pv (.int k (if isMax then (if b > a then b else a) else (if b < a then b else a)))) else none
  | _ => none
def pvExt (i : Nat) : List AV → Option (Prop × AV)
  | [.tup l] => (l[i]?).map fun r => (True, r)
  | _ => none

def pvNilc : List AV → Option (Prop × AV)
  | [.ptr x p] => some (True, .ptr x p)
  | [.rp l] => some (True, .rp l)
  | _ => none

def pval : POp → List AV → Option (Prop × AV)
  | .id, [x] => some (True, x)
  | .id, _ => none
  | .pick, l => pvPick l
  | .bin op, l => pvBin op l
  | .beq n, l => pvBeq n l
  | .peq n, l => pvPeq n l
  | .aeq neg n k, l => pvAeq neg n k l
  | .seq neg ks, l => pvSeq neg ks l
  | .sidx, l => pvSidx l
  | .sb op, l => pvSb op l
  | .slen, l => pvSlen l
  | .un op, l => pvUn op l
  | .conv k, l => pvConv k l
  | .field o n, l => pvField o n l
  | .index len sz n, l => pvIndex len sz n l
  | .fieldAddr o, l => pvFieldAddr o l
  | .indexAddr (some n) sz, l => pvIndexArr n sz l
  | .indexAddr none sz, l => pvIndexSl sz l
  | .slice none sz lo hi, l => pvSliceSl sz lo hi l
  | .slice (some n) sz lo hi, l => pvSliceArr n sz lo hi l
  | .s2ap n, l => pvS2ap n l
  | .len arr, l => pvLen arr l
  | .mm m, l => pvMm m l
  | .ext i, l => pvExt i l
  | .nilc, l => pvNilc l

def okC : AV → Value → Bool
  | .pv (.bool a), .bool b => a == b
  | .pv (.int k a), .int k' b => decide (k = k') && decide (a = b)
  | .pv .nilp, .pointer none => true
  | .pv .nilm, .map none => true
  | .pv (.str a), .string b => a.data == b.data
  | .os _ sz [], .slice none 0 0 => decide (0 < sz)
  | .pv (.sl _ []), .slice none 0 0 => true
  | _, _ => false
def okX : Opd → Operand → Bool
  | .t n, .tmp m => n == m
  | .c (.fn f), .func g => f == g
  | .c v, .const u => okC v u
  | _, _ => false
def okXs : List Opd → List Operand → Bool
  | [], [] => true
  | x :: xs, y :: ys => okX x y && okXs xs ys
  | _, _ => false

def uBool (P : Program) (t : TypeId) : Bool := match P.underlying t with | some .bool => true | _ => false
def uInt (P : Program) (t : TypeId) (k : IntKind) : Bool := match P.underlying t with | some (.int k') => decide (k = k') | _ => false
def uPtr (P : Program) (t : TypeId) : Bool := match P.underlying t with | some (.pointer _) => true | _ => false
def uSlice (P : Program) (t e : TypeId) : Bool := match P.underlying t with | some (.slice e') => e == e' | _ => false
def uArr (P : Program) (t : TypeId) (n : Nat) (e : TypeId) : Bool := match P.underlying t with | some (.array n' e') => n == n' && e == e' | _ => false
def hasU (P : Program) (t : TypeId) : Bool := (P.underlying t).isSome
def szOf (P : Program) (t : TypeId) (n : Nat) : Bool := decide ((P.info? t).map (·.size) = some n)
def isAggT (P : Program) (t : TypeId) : Option Bool := match P.underlying t with
  | some (.struct _) => some true
  | some (.array _ _) => some true
  | some _ => some false
  | none => none
/-- How a part of type t is read: a cell, or a run of n cells. -/
def okPart (P : Program) (t : TypeId) (n : Option Nat) : Bool := match n with
  | none => decide (isAggT P t = some false) && szOf P t 1
  | some n => decide (isAggT P t = some true) && szOf P t n
def elemOfT (P : Program) (t : TypeId) : Option TypeId := match P.underlying t with
  | some (.slice e) => some e
  | some (.array _ e) => some e
  | _ => none
def fieldOf (P : Program) (t : TypeId) (f : Nat) : Option Field := match P.underlying t with
  | some (.struct fs) => fs[f]?
  | _ => none
def arrOf (P : Program) (t : TypeId) : Option (Option Nat × TypeId) := match P.underlying t with
  | some (.slice e) => some (none, e)
  | some (.array n e) => some (some n, e)
  | _ => none
def okArr (P : Program) (t : TypeId) (arr : Option Nat) (sz : Nat) : Bool := match arrOf P t with
  | some (arr', e) => decide (arr = arr') && szOf P e sz && decide (0 < sz)
  | none => false

/-- The cells that a value of a type is compared by. -/
def partN (P : Program) (t : TypeId) (ks : List CK) : Option (Option Nat) := match isAggT P t with
  | some false => if ks.length = 1 ∧ okPart P t none = true then some none else none
  | some true => if okPart P t (some ks.length) = true then some (some ks.length) else none
  | none => none
def eqKF (P : Program) (rec : TypeId → Option (List CK)) : List Field → Nat → Option (List CK)
  | [], _ => some []
  | f :: r, off => if f.name ≠ "_" ∧ f.offset = off then (match rec f.type with
    | some ks => (match partN P f.type ks with
      | some _ => (match eqKF P rec r (off + ks.length) with
        | some ks' => some (ks ++ ks')
        | none => none)
      | none => none)
    | none => none) else none
def eqK (P : Program) : Nat → TypeId → Option (List CK)
  | 0, _ => none
  | d + 1, t => match P.underlying t with
    | some .bool => some [.b]
    | some (.int k) => some [.i k]
    | some .string => some [.s]
    | some (.struct fs) => if P.stoodInHeld t = false then eqKF P (eqK P d) fs.toList 0 else none
    | some (.array n e) => (match eqK P d e with
      | some ks => (match partN P e ks with
        | some _ => if P.cellsOf e = ks.length then some (List.replicate n ks).flatten else none
        | none => none)
      | none => none)
    | _ => none
/-- Is the model's operation the abstract one? -/
def okP (P : Program) : POp → List Opd → Op → Bool
  | .id, xs, .move y => okXs xs [y]
  | .id, xs, .assign y => okXs xs [y]
  | .nilc, xs, .nilCheck y => okXs xs [y]
  | .pick, xs, .pick c a b => okXs xs [c, a, b]
  | .bin op, xs, .binOp op' _ x y _ => decide (op = op') && okXs xs [x, y]
  | .beq neg, xs, .binOp op t x y _ => decide (op = if neg then .neq else .eql) && uBool P t && okXs xs [x, y]
  | .peq neg, xs, .binOp op t x y _ => decide (op = if neg then .neq else .eql) && uPtr P t && okXs xs [x, y]
  | .aeq neg n k, xs, .binOp op t x y _ => decide (op = if neg then .neq else .eql) && (match P.underlying t with
    | some (.array n' e) => n == n' && uInt P e k && szOf P e 1
    | _ => false) && !(P.eqGuardType P.depth t) && okXs xs [x, y]
  | .seq neg ks, xs, .binOp op t x y _ => decide (op = if neg then .neq else .eql) && decide (eqK P 8 t = some ks) && decide (isAggT P t = some true) && !(P.eqGuardType P.depth t) && okXs xs [x, y]
  | .sb op, xs, .binOp op' _ x y _ => decide (op = op') && okXs xs [x, y]
  | .slen, xs, .call c => (match c.callee with
    | .builtin .len => (match c.argTypes.toList with
      | [t] => (match P.underlying t with
        | some .string => true
        | _ => false)
      | _ => false)
    | _ => false) && okXs xs c.args.toList
  | .sidx, xs, .index t x i => (match P.underlying t with
    | some .string => true
    | _ => false) && okXs xs [x, i]
  | .un op, xs, .unOp op' _ x => decide (op = op') && okXs xs [x]
  | .conv k, xs, .convert s d x => hasU P s && uInt P d k && okXs xs [x]
  | .field off n, xs, .field t x f => (match fieldOf P t f with
    | some fd => fd.offset == off && okPart P fd.type n
    | none => false) && okXs xs [x]
  | .index len sz n, xs, .index t x i => (match arrOf P t with
    | some (some len', e) => len == len' && szOf P e sz && okPart P e n
    | _ => false) && okXs xs [x, i]
  | .fieldAddr off, xs, .fieldAddr t x f => (match fieldOf P t f with
    | some fd => fd.offset == off && (match (P.info? fd.type).map (·.size) with
      | some (_ + 1) => true
      | _ => false)
    | none => false) && okXs xs [x]
  | .indexAddr arr sz, xs, .indexAddr t x i => okArr P t arr sz && okXs xs [x, i]
  | .slice arr sz lo hi, xs, .slice t x l h mx => okArr P t arr sz && decide (arr.getD 0 ≤ 1000000) && decide (lo = l.isSome) && decide (hi = h.isSome) && mx.isNone && okXs xs (x :: (l.toList ++ h.toList))
  | .s2ap n, xs, .sliceToArrayPointer t x => (match P.underlying t with
    | some (.array n' _) => n == n'
    | _ => false) && okXs xs [x]
  | .len arr, xs, .call c => (match c.callee with
    | .builtin .len => (match c.argTypes.toList with
      | [t] => (match arrOf P t with
        | some (arr', _) => decide (arr = arr')
        | none => false)
      | _ => false)
    | _ => false) && okXs xs c.args.toList
  | .mm isMax, xs, .call c => (match c.callee with
    | .builtin .max => isMax
    | .builtin .min => !isMax
    | _ => false) && okXs xs c.args.toList
  | .ext i, xs, .extract x i' => i == i' && okXs xs [x]
  | _, _, _ => false

section
variable {fp : Nat → Nat → Prop} {site : Nat → Option Nat} {w : World}

/-- A value that nothing is owned by. -/
def V2 (fp : Nat → Nat → Prop) (site : Nat → Option Nat) (w : World) (v : Value) (a : AV) : Prop := VR2 fp site w v a (fun _ => none)

theorem okC_sound {a : AV} {u : Value} (h : okC a u = true) : V2 fp site w u a := by
  unfold okC at h
  split at h
  · rename_i a b; simp at h; subst h; exact ⟨⟨.bool _, rfl⟩, fun _ _ => rfl⟩
  · rename_i k a k' b; simp at h; obtain ⟨rfl, rfl⟩ := h; exact ⟨⟨.int _ _, rfl⟩, fun _ _ => rfl⟩
  · exact ⟨⟨.nilp, rfl⟩, fun _ _ => rfl⟩
  · exact ⟨⟨.nilm, rfl⟩, fun _ _ => rfl⟩
  · rename_i a b
    have e : a = b := by
      obtain ⟨a⟩ := a
      obtain ⟨b⟩ := b
      simpa using h
    subst e
    exact ⟨⟨.str _, rfl⟩, fun _ _ => rfl⟩
  · rename_i e sz
    simp at h
    exact ⟨⟨[], World.ownsRow_nil w 0 e sz, PRs.nil _ _, by simp, h, Or.inl ⟨rfl, rfl⟩⟩, fun _ _ => rfl⟩
  · exact ⟨⟨.sl0 _ _ _ (Nat.zero_le _) (fun _ => rfl), rfl⟩, fun _ _ => rfl⟩
  · cases h
end
end Go.Abs
end

section
/- The abstract machine's operations that only compute answer as the model's do. No condition. -/
namespace Go.Abs

section
variable {fp : Nat → Nat → Prop} {site : Nat → Option Nat} {w : World} {v : Value}
theorem V2.int {k : IntKind} {n : Int} (h : V2 fp site w v (.pv (.int k n))) : v = .int k n := by obtain ⟨⟨h, _⟩, _⟩ := h; cases h; rfl
theorem V2.bool {b : Bool} (h : V2 fp site w v (.pv (.bool b))) : v = .bool b := by obtain ⟨⟨h, _⟩, _⟩ := h; cases h; rfl
theorem V2.nilp (h : V2 fp site w v (.pv .nilp)) : v = .pointer none := by obtain ⟨⟨h, _⟩, _⟩ := h; cases h; rfl
theorem V2.pv {p : PV} (h : V2 fp site w v (.pv p)) : PR fp w v p := h.1.1
theorem V2.mkpv {p : PV} (h : PR fp w v p) : V2 fp site w v (.pv p) := ⟨⟨h, rfl⟩, fun _ _ => rfl⟩
theorem V2.ptr {x o : Nat} (h : V2 fp site w v (.ptr x o)) : ∃ b, site x = some b ∧ v = .pointer (some ⟨b, o, none⟩) := h.1.1
theorem V2.mkptr {x o b : Nat} (h : site x = some b) : V2 fp site w (.pointer (some ⟨b, o, none⟩)) (.ptr x o) := ⟨⟨⟨b, h, rfl⟩, rfl⟩, fun _ _ => rfl⟩
theorem V2.rp {l : List PV} (h : V2 fp site w v (.rp l)) : ∃ b o, v = .pointer (some ⟨b, o, none⟩) ∧ ∀ (j : Nat) p, l[j]? = some p → fp b (o + j) ∧ ∃ u, w.cell? ⟨b, o + j, none⟩ = some u ∧ PR fp w u p := h.1.1
theorem V2.mkrp {l : List PV} {b o : Nat} (h : ∀ (j : Nat) p, l[j]? = some p → fp b (o + j) ∧ ∃ u, w.cell? ⟨b, o + j, none⟩ = some u ∧ PR fp w u p) : V2 fp site w (.pointer (some ⟨b, o, none⟩)) (.rp l) := ⟨⟨⟨b, o, rfl, h⟩, rfl⟩, fun _ _ => rfl⟩
theorem V2.sr {x o n sz : Nat} (h : V2 fp site w v (.sr x o n sz)) : ∃ b c, site x = some b ∧ v = .slice (some ⟨b, o, none⟩) n c ∧ n ≤ c ∧ c ≤ maxLen := h.1.1
theorem V2.mksr {x o n sz b c : Nat} (h : site x = some b) (h1 : n ≤ c) (h2 : c ≤ maxLen) : V2 fp site w (.slice (some ⟨b, o, none⟩) n c) (.sr x o n sz) := ⟨⟨⟨b, c, h, rfl, h1, h2⟩, rfl⟩, fun _ _ => rfl⟩

theorem VR0.dem0n {c : AV} (h : VR0 fp site w v c none) : VR0 fp site w v c.dem0 none := by
  cases c <;> first | exact h | skip
  rename_i e sz es
  obtain ⟨xs, g1, g2, g3, g4, g5⟩ := h
  rcases g5 with ⟨g5, _⟩ | ⟨_, _, _, _, g6⟩
  · have hn : es.length = 0 := by
      rcases g1.2 with ⟨_, hn⟩ | ⟨g, cap, cur, hh, _⟩
      · exact hn
      · rw [g5] at hh; cases hh
    have : es = [] := List.eq_nil_of_length_eq_zero hn
    subst this
    rw [g5]
    exact ⟨.sl0 _ _ _ (Nat.zero_le _) (fun _ => rfl), rfl⟩
  · cases g6
theorem V2.of0 {a : AV} (h : VR0 fp site w v a none) : V2 fp site w v a := by
  cases a <;> first | exact ⟨h, fun _ _ => rfl⟩ | exact h.elim

theorem V2.getc {a r : AV} {o : Nat} (h : V2 fp site w v a) (hr : getc a o = some r) (ha : a.isAgg) : ∃ cs u, v = .agg cs ∧ cs[o]? = some u ∧ VR0 fp site w u r none := by
  cases a <;> simp only [AV.isAgg] at ha
  · rename_i l
    obtain ⟨⟨cs, rfl, h1⟩, _⟩ := h
    simp only [Abs.getc, Option.map_eq_some_iff] at hr
    obtain ⟨p, hp, rfl⟩ := hr
    obtain ⟨u, hu, hpr⟩ := h1.get hp
    exact ⟨cs, u, rfl, by simpa using hu, hpr, rfl⟩
  · rename_i l
    obtain ⟨⟨cs, rfl, h1, h2⟩, _⟩ := h
    simp only [Abs.getc, Option.map_eq_some_iff] at hr
    obtain ⟨c, hc, rfl⟩ := hr
    have ho : o < cs.size := by rw [h1]; exact (List.getElem?_eq_some_iff.1 hc).1
    exact ⟨cs, cs[o], rfl, Array.getElem?_eq_getElem ho, VR0.dem0n (h2 o c cs[o] hc (Array.getElem?_eq_getElem ho))⟩

theorem allPV_spec : ∀ {l : List AV} {ps : List PV}, allPV l = some ps → l = ps.map AV.pv
  | [], ps, h => by simp [allPV] at h; subst h; rfl
  | a :: l, ps, h => by
    cases a <;> simp only [allPV, Option.map_eq_some_iff, reduceCtorEq] at h
    obtain ⟨q, h, rfl⟩ := h
    rw [allPV_spec h]
    rfl
theorem V2.norm {l : List AV} (h : V2 fp site w v (.agg l)) : V2 fp site w v (normA l) := by
  unfold normA
  cases hq : allPV l with
  | none => exact h
  | some ps =>
    obtain ⟨⟨cs, rfl, h1, h2⟩, _⟩ := h
    have e := allPV_spec hq
    subst e
    refine ⟨⟨cs, rfl, by simpa using h1, fun j u p hu hp => ?_⟩, fun _ => rfl⟩
    exact (h2 j (.pv p) u (by simp [hp]) (by simpa using hu)).1
theorem V2.getr {a r : AV} {o n : Nat} (h : V2 fp site w v a) (hr : getr a o n = some r) (ha : a.isAgg) : ∃ cs, v = .agg cs ∧ V2 fp site w (.agg (cs.extract o (o + n))) r := by
  cases a <;> simp only [AV.isAgg] at ha
  · rename_i l
    obtain ⟨⟨cs, rfl, h1⟩, _⟩ := h
    simp only [Abs.getr, Option.some.injEq] at hr
    subst hr
    refine ⟨cs, rfl, ⟨_, rfl, ?_⟩, fun _ => rfl⟩
    have := (h1.drop o).take n
    rw [Array.toList_extract]
    simpa [List.extract_eq_take_drop] using this
  · rename_i l
    have hh := h
    obtain ⟨⟨cs, rfl, h1, h2⟩, _⟩ := h
    simp only [Abs.getr, Option.some.injEq] at hr
    subst hr
    refine ⟨cs, rfl, V2.norm ⟨⟨_, rfl, ?_, ?_⟩, fun _ _ => rfl⟩⟩
    · simp [h1]; omega
    · intro j c u hc hu
      rw [List.getElem?_map, List.getElem?_take, Option.map_eq_some_iff] at hc
      obtain ⟨c', hc, rfl⟩ := hc
      split at hc
      · rw [List.getElem?_drop] at hc
        obtain ⟨cs', u', e, hu', hv⟩ := V2.getc (r := c'.dem0) (o := o + j) hh (by simp [Abs.getc, hc]) trivial
        cases e
        rw [Array.getElem?_extract] at hu
        split at hu
        · rw [hu'] at hu
          cases hu
          exact hv
        · cases hu
      · cases hc

/-- A part of an aggregate value. -/
theorem run_part {P : Program} {t : TypeId} {a r : AV} {o : Nat} {n : Option Nat} (h : V2 fp site w v a) (hr : part1 a o n = some r) (ha : a.isAgg) (ht : okPart P t n = true) :
    ∃ cs u, v = .agg cs ∧ (part t cs o).run P w = .ok u w ∧ V2 fp site w u r := by
  unfold okPart at ht
  unfold part1 at hr
  cases n with
  | none =>
    simp only [Bool.and_eq_true, decide_eq_true_eq] at ht
    obtain ⟨cs, u, rfl, hu, hv⟩ := h.getc hr ha
    refine ⟨cs, u, rfl, ?_, V2.of0 hv⟩
    obtain ⟨h1, _⟩ := ht
    unfold isAggT at h1
    cases hd : P.underlying t with
    | none => simp [hd] at h1
    | some d =>
      rw [hd] at h1
      cases d <;> simp at h1 <;> simp [part, isAgg, run_underlying hd, hu]
  | some n =>
    simp only [Bool.and_eq_true, decide_eq_true_eq, szOf] at ht
    obtain ⟨cs, rfl, hv⟩ := h.getr hr ha
    refine ⟨cs, _, rfl, ?_, hv⟩
    obtain ⟨h1, h2⟩ := ht
    obtain ⟨i, hi, hn⟩ := Option.map_eq_some_iff.1 h2
    subst hn
    unfold isAggT at h1
    cases hd : P.underlying t with
    | none => simp [hd] at h1
    | some d =>
      rw [hd] at h1
      cases d <;> simp at h1 <;> simp [part, isAgg, run_underlying hd, sizeOf, typeInfo, hi]

theorem okXs1 {xs : List Opd} {y : Operand} (h : okXs xs [y] = true) : ∃ x, xs = [x] ∧ okX x y = true := by
  cases xs with
  | nil => simp [okXs] at h
  | cons x r => cases r with
    | nil => exact ⟨x, rfl, by simpa [okXs] using h⟩
    | cons _ _ => simp [okXs] at h
theorem okXs_cons {xs : List Opd} {y : Operand} {ys : List Operand} (h : okXs xs (y :: ys) = true) : ∃ x r, xs = x :: r ∧ okX x y = true ∧ okXs r ys = true := by
  cases xs with
  | nil => simp [okXs] at h
  | cons x r => exact ⟨x, r, rfl, by simpa [okXs] using h⟩
theorem okXs_nil {xs : List Opd} (h : okXs xs [] = true) : xs = [] := by
  cases xs with
  | nil => rfl
  | cons _ _ => simp [okXs] at h
theorem okXs2 {xs : List Opd} {y y' : Operand} (h : okXs xs [y, y'] = true) : ∃ x x', xs = [x, x'] ∧ okX x y = true ∧ okX x' y' = true := by
  obtain ⟨x, r, rfl, h1, h2⟩ := okXs_cons h
  obtain ⟨x', rfl, h3⟩ := okXs1 h2
  exact ⟨x, x', rfl, h1, h3⟩
theorem okXs3 {xs : List Opd} {y y' y'' : Operand} (h : okXs xs [y, y', y''] = true) : ∃ x x' x'', xs = [x, x', x''] ∧ okX x y = true ∧ okX x' y' = true ∧ okX x'' y'' = true := by
  obtain ⟨x, r, rfl, h1, h2⟩ := okXs_cons h
  obtain ⟨x', x'', rfl, h3, h4⟩ := okXs2 h2
  exact ⟨x, x', x'', rfl, h1, h3, h4⟩

/-- What the operands answer. -/
def OpdR (fp : Nat → Nat → Prop) (site : Nat → Option Nat) (w : World) (ρ : Operand → Value) (g : Opd → AV) : Prop := ∀ x y, okX x y = true → V2 fp site w (ρ y) (g x)

def PS (P : Program) (fp : Nat → Nat → Prop) (site : Nat → Option Nat) (w : World) (ρ : Operand → Value) (o : Oper) (r : AV) : Prop :=
  ∃ v, (execOp ρ o).run P w = .ok (.value v) w ∧ V2 fp site w v r

variable {P : Program} {ρ : Operand → Value} {g : Opd → AV} {o : Oper} {xs : List Opd} {c : Prop} {r : AV}

theorem ps_id (H : OpdR fp site w ρ g) (h : okP P .id xs o.op = true) (hp : pval .id (xs.map g) = some (c, r)) (hc : c) : PS P fp site w ρ o r := by
  cases hop : o.op <;> simp only [okP, hop, Bool.false_eq_true] at h
  all_goals
    obtain ⟨x, rfl, hx⟩ := okXs1 h
    simp only [List.map, pval, Option.some.injEq, Prod.mk.injEq] at hp
    obtain ⟨_, rfl⟩ := hp
    exact ⟨_, by simp [execOp, hop], H _ _ hx⟩

theorem ps_pick (H : OpdR fp site w ρ g) (h : okP P .pick xs o.op = true) (hp : pval .pick (xs.map g) = some (c, r)) (hc : c) : PS P fp site w ρ o r := by
  cases hop : o.op <;> simp only [okP, hop, Bool.false_eq_true] at h
  obtain ⟨x, x', x'', rfl, h1, h2, h3⟩ := okXs3 h
  have H1 := H _ _ h1
  have H2 := H _ _ h2
  have H3 := H _ _ h3
  simp only [List.map, pval, pvPick] at hp
  split at hp
  · rename_i c' a b e
    simp only [List.cons.injEq, and_true] at e
    obtain ⟨e1, rfl, rfl⟩ := e
    simp only [Option.some.injEq, Prod.mk.injEq] at hp
    obtain ⟨_, rfl⟩ := hp
    rw [e1] at H1
    have := H1.bool
    cases c'
    · exact ⟨_, by simp [execOp, hop, this, asBool], H3⟩
    · exact ⟨_, by simp [execOp, hop, this, asBool], H2⟩
  · simp at hp

theorem guard_int (op : BinOp) (t : TypeId) (x y : Operand) (k k' : IntKind) (a b : Int) : (eqGuard op t x y (.int k a) (.int k' b)).run P w = .ok () w := by
  unfold eqGuard
  cases op <;> simp
theorem guard_bool (op : BinOp) (t : TypeId) (x y : Operand) (a b : Bool) : (eqGuard op t x y (.bool a) (.bool b)).run P w = .ok () w := by
  unfold eqGuard
  cases op <;> simp
theorem guard_ptr (op : BinOp) (t : TypeId) (x y : Operand) (a b : Option Addr) : (eqGuard op t x y (.pointer a) (.pointer b)).run P w = .ok () w := by
  unfold eqGuard
  cases op <;> simp

theorem equalIn_bool (d : Nat) {t : TypeId} (h : P.underlying t = some .bool) (a b : Bool) : (Op.equalIn (d + 1) t (.bool a) (.bool b)).run P w = .ok (a == b) w := by
  simp [Op.equalIn, run_underlying h]
theorem equal_bool {t : TypeId} (h : P.underlying t = some .bool) (a b : Bool) : (Op.equal t (.bool a) (.bool b)).run P w = .ok (a == b) w := equalIn_bool 9999 h a b
theorem equalIn_ptr0 (d : Nat) {t el : TypeId} (h : P.underlying t = some (.pointer el)) (a : Option Addr) : (Op.equalIn (d + 1) t (.pointer a) (.pointer none)).run P w = .ok a.isNone w := by
  cases a <;> simp [Op.equalIn, run_underlying h]
theorem equal_ptr0 {t el : TypeId} (h : P.underlying t = some (.pointer el)) (a : Option Addr) : (Op.equal t (.pointer a) (.pointer none)).run P w = .ok a.isNone w := equalIn_ptr0 9999 h a

theorem run_shift {op : BinOp} {t : TypeId} {k k' : IntKind} {a b : Int} {c : Prop} {p : PV} (h : sbin op k a b = some (c, p)) (hc : c) :
    ∃ v, (binOp op t (.int k a) (.int k' b)).run P w = .ok v w ∧ PR fp w v p := by
  cases op <;> simp only [sbin, Option.some.injEq, Prod.mk.injEq, reduceCtorEq] at h
  all_goals
    obtain ⟨rfl, rfl⟩ := h
    have : ¬ b < 0 := by omega
    exact ⟨_, by simp only [binOp, Op.shift, this, if_false]; rfl, .int _ _⟩

theorem run_ibin {op : BinOp} {t : TypeId} {k : IntKind} {a b : Int} {c : Prop} {p : PV} (hs : isShift op = false) (h : ibin op k a b = some (c, p)) (hc : c) :
    ∃ v, (binOp op t (.int k a) (.int k b)).run P w = .ok v w ∧ PR fp w v p := by
  cases op <;> simp only [ibin, Option.some.injEq, Prod.mk.injEq, reduceCtorEq] at h <;> simp only [isShift, Bool.true_eq_false] at hs
  all_goals obtain ⟨rfl, rfl⟩ := h
  all_goals first
    | (refine ⟨_, ?_, .int _ _⟩; simp [binOp, Op.intArith]; done)
    | (refine ⟨_, ?_, .int _ _⟩; simp [binOp, Op.intDiv, hc]; done)
    | (refine ⟨_, ?_, .bool _⟩; simp [binOp, Op.intCmp]; done)
    | (refine ⟨_, ?_, .int _ _⟩; simp only [binOp_and, binOp_or, binOp_xor, binOp_andNot]; rfl)

theorem ps_bin {op : BinOp} (H : OpdR fp site w ρ g) (h : okP P (.bin op) xs o.op = true) (hp : pval (.bin op) (xs.map g) = some (c, r)) (hc : c) : PS P fp site w ρ o r := by
  cases hop : o.op <;> simp only [okP, hop, Bool.false_eq_true] at h
  rename_i op' t y y' t'
  simp only [Bool.and_eq_true, decide_eq_true_eq] at h
  obtain ⟨rfl, h⟩ := h
  obtain ⟨x, x', rfl, h1, h2⟩ := okXs2 h
  have H1 := H _ _ h1
  have H2 := H _ _ h2
  simp only [List.map, pval, pvBin] at hp
  split at hp
  · rename_i k a k' b e
    simp only [List.cons.injEq, and_true] at e
    rw [e.1] at H1
    rw [e.2] at H2
    have e1 := H1.int
    have e2 := H2.int
    split at hp
    · rename_i hs
      simp only [Option.map_eq_some_iff, Prod.mk.injEq] at hp
      obtain ⟨⟨c', p⟩, hp, rfl, rfl⟩ := hp
      obtain ⟨v, hv, hr⟩ := run_shift (P := P) (w := w) (fp := fp) (t := t) (k' := k') hp hc
      exact ⟨v, by simp [execOp, hop, e1, e2, guard_int, hv], V2.mkpv hr⟩
    · rename_i hs
      split at hp
      · rename_i hk
        subst hk
        simp only [Option.map_eq_some_iff, Prod.mk.injEq] at hp
        obtain ⟨⟨c', p⟩, hp, rfl, rfl⟩ := hp
        obtain ⟨v, hv, hr⟩ := run_ibin (P := P) (w := w) (fp := fp) (t := t) (by simpa using hs) hp hc
        exact ⟨v, by simp [execOp, hop, e1, e2, guard_int, hv], V2.mkpv hr⟩
      · cases hp
  · cases hp

theorem ps_beq {neg : Bool} (H : OpdR fp site w ρ g) (h : okP P (.beq neg) xs o.op = true) (hp : pval (.beq neg) (xs.map g) = some (c, r)) (hc : c) : PS P fp site w ρ o r := by
  cases hop : o.op <;> simp only [okP, hop, Bool.false_eq_true] at h
  rename_i op' t y y' t'
  simp only [Bool.and_eq_true, decide_eq_true_eq] at h
  obtain ⟨⟨rfl, hu⟩, h⟩ := h
  obtain ⟨x, x', rfl, h1, h2⟩ := okXs2 h
  have H1 := H _ _ h1
  have H2 := H _ _ h2
  simp only [List.map, pval, pvBeq] at hp
  split at hp
  · rename_i a b e
    simp only [List.cons.injEq, and_true] at e
    rw [e.1] at H1
    rw [e.2] at H2
    have e1 := H1.bool
    have e2 := H2.bool
    simp only [Option.some.injEq, Prod.mk.injEq] at hp
    obtain ⟨_, rfl⟩ := hp
    have hd : P.underlying t = some .bool := by
      unfold uBool at hu
      split at hu
      · assumption
      · cases hu
    refine ⟨_, ?_, V2.mkpv (.bool _)⟩
    cases neg <;> simp [execOp, hop, e1, e2, guard_bool, binOp, equal_bool hd, bne]
  · cases hp

theorem ps_peq {neg : Bool} (H : OpdR fp site w ρ g) (h : okP P (.peq neg) xs o.op = true) (hp : pval (.peq neg) (xs.map g) = some (c, r)) (hc : c) : PS P fp site w ρ o r := by
  cases hop : o.op <;> simp only [okP, hop, Bool.false_eq_true] at h
  rename_i op' t y y' t'
  simp only [Bool.and_eq_true, decide_eq_true_eq] at h
  obtain ⟨⟨rfl, hu⟩, h⟩ := h
  obtain ⟨x, x', rfl, h1, h2⟩ := okXs2 h
  have H1 := H _ _ h1
  have H2 := H _ _ h2
  obtain ⟨el, hd⟩ : ∃ el, P.underlying t = some (.pointer el) := by
    unfold uPtr at hu
    split at hu
    · rename_i e he; exact ⟨e, he⟩
    · cases hu
  simp only [List.map, pval, pvPeq] at hp
  split at hp
  · rename_i e
    simp only [List.cons.injEq, and_true] at e
    rw [e.1] at H1
    rw [e.2] at H2
    have e1 := H1.nilp
    have e2 := H2.nilp
    simp only [Option.some.injEq, Prod.mk.injEq] at hp
    obtain ⟨_, rfl⟩ := hp
    refine ⟨_, ?_, V2.mkpv (.bool _)⟩
    cases neg <;> simp [execOp, hop, e1, e2, guard_ptr, binOp, equal_ptr0 hd]
  · rename_i a b e
    simp only [List.cons.injEq, and_true] at e
    rw [e.1] at H1
    rw [e.2] at H2
    obtain ⟨bb, _, e1⟩ := H1.ptr
    have e2 := H2.nilp
    simp only [Option.some.injEq, Prod.mk.injEq] at hp
    obtain ⟨_, rfl⟩ := hp
    refine ⟨_, ?_, V2.mkpv (.bool _)⟩
    cases neg <;> simp [execOp, hop, e1, e2, guard_ptr, binOp, equal_ptr0 hd]
  · rename_i a e
    simp only [List.cons.injEq, and_true] at e
    rw [e.1] at H1
    rw [e.2] at H2
    obtain ⟨bb, oo, e1, _⟩ := H1.rp
    have e2 := H2.nilp
    simp only [Option.some.injEq, Prod.mk.injEq] at hp
    obtain ⟨_, rfl⟩ := hp
    refine ⟨_, ?_, V2.mkpv (.bool _)⟩
    cases neg <;> simp [execOp, hop, e1, e2, guard_ptr, binOp, equal_ptr0 hd]
  · cases hp

theorem equalIn_int (d : Nat) {t : TypeId} {k : IntKind} (h : P.underlying t = some (.int k)) (a b : Int) : (Op.equalIn (d + 1) t (.int k a) (.int k b)).run P w = .ok (a == b) w := by
  simp [Op.equalIn, run_underlying h]
theorem kPV_int {k : IntKind} {p : PV} (h : kPV k p = true) : ∃ a, p = .int k a := by
  cases p <;> simp [kPV] at h
  exact ⟨_, by rw [h]⟩
theorem part_one {e : TypeId} {xs : Array Value} {i : Nat} {k : IntKind} {a : Int} (hs : szOf P e 1 = true) (hg : isAggT P e = some false) (h : xs[i]? = some (.int k a)) : (part e xs i).run P w = .ok (.int k a) w := by
  have hlt : i < xs.size := (Array.getElem?_eq_some_iff.1 h).1
  simp only [szOf, decide_eq_true_eq] at hs
  obtain ⟨ie, hie, hn⟩ := Option.map_eq_some_iff.1 hs
  have hx : xs[i] = .int k a := (Array.getElem?_eq_some_iff.1 h).2
  have hag : (isAgg e).run P w = .ok false w := by
    unfold isAggT at hg
    cases hd : P.underlying e with
    | none => simp [hd] at hg
    | some d => rw [hd] at hg; cases d <;> simp at hg <;> simp [isAgg, run_underlying hd]
  simp [part, sizeOf, typeInfo, hie, hn, hag, hlt, hx]
theorem run_eqItems_int (d : Nat) {e : TypeId} {k : IntKind} (he : P.underlying e = some (.int k)) (hs : szOf P e 1 = true) (hc : P.cellsOf e = 1) (xs ys : Array Value) : ∀ (is : List Nat), (∀ i ∈ is, ∃ a b, xs[i]? = some (.int k a) ∧ ys[i]? = some (.int k b)) →
    (Op.eqItems (d + 1) e (P.cellsOf e) xs ys is).run P w = .ok (is.all fun i => match xs[i]?, ys[i]? with
      | some (.int _ a), some (.int _ b) => a == b
      | _, _ => false) w
  | [], _ => by simp [Op.eqItems]
  | i :: is, h => by
    obtain ⟨a, b, h1, h2⟩ := h i (by simp)
    have hg : isAggT P e = some false := by simp [isAggT, he]
    have ih := run_eqItems_int d he hs hc xs ys is (fun j hj => h j (by simp [hj]))
    rw [hc] at ih ⊢
    simp only [Op.eqItems, Sem.run_bind, Nat.mul_one, part_one hs hg h1, part_one hs hg h2, Result.andThen_ok, equalIn_int d he, List.all_cons, h1, h2]
    cases hab : a == b
    · simp
    · simpa using ih
theorem eqPVs_all {k : IntKind} : ∀ {l m : List PV} {cs ds : List Value}, l.length = m.length → PRs fp w cs l → PRs fp w ds m → l.all (kPV k) = true → m.all (kPV k) = true →
    ((List.range l.length).all fun i => match cs[i]?, ds[i]? with
      | some (.int _ a), some (.int _ b) => a == b
      | _, _ => false) = eqPVs l m
  | [], [], cs, ds, _, h1, h2, _, _ => by simp [eqPVs]
  | p :: l, q :: m, cs, ds, hl, h1, h2, ha, hb => by
    have hcl := h1.1
    have hdl := h2.1
    cases cs with
    | nil => simp at hcl
    | cons c cs =>
      cases ds with
      | nil => simp at hdl
      | cons d ds =>
        simp only [List.all_cons, Bool.and_eq_true] at ha hb
        obtain ⟨a, rfl⟩ := kPV_int ha.1
        obtain ⟨b, rfl⟩ := kPV_int hb.1
        have e1 := h1.2 0 c _ rfl rfl
        have e2 := h2.2 0 d _ rfl rfl
        cases e1
        cases e2
        have t1 : PRs fp w cs l := h1.drop 1
        have t2 : PRs fp w ds m := h2.drop 1
        have ih := eqPVs_all (by simpa using hl) t1 t2 ha.2 hb.2
        rw [List.length_cons, List.range_succ_eq_map, List.all_cons, List.all_map]
        simp only [eqPVs, eqPV]
        rw [← ih]
        rfl
  | [], _ :: _, _, _, hl, _, _, _, _ => by simp at hl
  | _ :: _, [], _, _, hl, _, _, _, _ => by simp at hl
theorem ps_aeq {neg : Bool} {n : Nat} {k : IntKind} (H : OpdR fp site w ρ g) (h : okP P (.aeq neg n k) xs o.op = true) (hp : pval (.aeq neg n k) (xs.map g) = some (c, r)) (hc : c) : PS P fp site w ρ o r := by
  cases hop : o.op <;> simp only [okP, hop, Bool.false_eq_true] at h
  rename_i op' t y y' t'
  simp only [Bool.and_eq_true, decide_eq_true_eq, Bool.not_eq_true'] at h
  obtain ⟨⟨⟨rfl, hu⟩, hgd⟩, h⟩ := h
  obtain ⟨x, x', rfl, h1, h2⟩ := okXs2 h
  have H1 := H _ _ h1
  have H2 := H _ _ h2
  simp only [List.map, pval, pvAeq] at hp
  split at hp
  · rename_i l m e
    simp only [List.cons.injEq, and_true] at e
    rw [e.1] at H1
    rw [e.2] at H2
    obtain ⟨⟨cs, e1, p1⟩, _⟩ := H1
    obtain ⟨⟨ds, e2, p2⟩, _⟩ := H2
    simp only [Option.some.injEq, Prod.mk.injEq] at hp
    obtain ⟨rfl, rfl⟩ := hp
    obtain ⟨q1, q2, q3, q4⟩ := hc
    split at hu
    · rename_i n' el hd
      simp only [Bool.and_eq_true, beq_iff_eq] at hu
      obtain ⟨⟨rfl, hi⟩, hs⟩ := hu
      have hel : P.underlying el = some (.int k) := by
        unfold uInt at hi
        split at hi
        · rename_i k' hk'; simp at hi; subst hi; exact hk'
        · cases hi
      have hce : P.cellsOf el = 1 := by
        simp only [szOf, decide_eq_true_eq] at hs
        simp [Program.cellsOf, hs]
      obtain ⟨ie, hie⟩ : ∃ i, P.info? el = some i := info_of_underlying hel
      have hat : ∀ i ∈ List.range n, ∃ a b, cs[i]? = some (.int k a) ∧ ds[i]? = some (.int k b) := fun i hi => by
        have hin : i < n := List.mem_range.1 hi
        obtain ⟨v1, g1, g2⟩ := p1.get (j := i) (p := l[i]) (List.getElem?_eq_getElem (by omega))
        obtain ⟨v2, g3, g4⟩ := p2.get (j := i) (p := m[i]) (List.getElem?_eq_getElem (by omega))
        obtain ⟨a, ha⟩ := kPV_int (List.all_eq_true.1 q3 _ (List.getElem_mem (l := l) (by omega : i < l.length)))
        obtain ⟨b, hb⟩ := kPV_int (List.all_eq_true.1 q4 _ (List.getElem_mem (l := m) (by omega : i < m.length)))
        rw [ha] at g2
        rw [hb] at g4
        cases g2
        cases g4
        exact ⟨a, b, by rw [← Array.getElem?_toList]; exact g1, by rw [← Array.getElem?_toList]; exact g3⟩
      have hrun := run_eqItems_int (w := w) 9998 hel hs hce cs ds (List.range n) hat
      rw [← run_equalIn_array w 9999 cs ds hd hie] at hrun
      have hall := eqPVs_all (k := k) (cs := cs.toList) (ds := ds.toList) (by omega) p1 p2 q3 q4
      rw [q1] at hall
      simp only [Array.getElem?_toList] at hall
      rw [hall] at hrun
      have heq : (Op.equal t (.agg cs) (.agg ds)).run P w = .ok (eqPVs l m) w := hrun
      refine ⟨.bool (if neg then !eqPVs l m else eqPVs l m), ?_, V2.mkpv (.bool _)⟩
      cases neg <;> simp [execOp, hop, e1, e2, eqGuard, hgd, binOp, heq]
    · cases hu
  · cases hp

theorem V2.str_eq {v : Value} {b : ByteArray} (h : V2 fp site w v (.pv (.str b))) : v = .string b := by
  obtain ⟨⟨h, _⟩, _⟩ := h
  cases h
  rfl
theorem guard_str (op : BinOp) (t : TypeId) (x y : Operand) (a b : ByteArray) : (eqGuard op t x y (.string a) (.string b)).run P w = .ok () w := by
  unfold eqGuard
  cases op <;> simp
theorem ps_sb {op : BinOp} (H : OpdR fp site w ρ g) (h : okP P (.sb op) xs o.op = true) (hp : pval (.sb op) (xs.map g) = some (c, r)) (hc : c) : PS P fp site w ρ o r := by
  cases hop : o.op <;> simp only [okP, hop, Bool.false_eq_true] at h
  rename_i op' t y y' t'
  simp only [Bool.and_eq_true, decide_eq_true_eq] at h
  obtain ⟨rfl, h⟩ := h
  obtain ⟨x, x', rfl, h1, h2⟩ := okXs2 h
  have H1 := H _ _ h1
  have H2 := H _ _ h2
  simp only [List.map, pval, pvSb] at hp
  split at hp
  · rename_i a b e
    simp only [List.cons.injEq, and_true] at e
    rw [e.1] at H1
    rw [e.2] at H2
    have e1 := V2.str_eq H1
    have e2 := V2.str_eq H2
    split at hp
    · simp only [Option.some.injEq, Prod.mk.injEq] at hp
      obtain ⟨rfl, rfl⟩ := hp
      refine ⟨.string (a ++ b), ?_, V2.mkpv (.str _)⟩
      have hn : ¬ (((a.size + b.size : Nat) : Int) > 9223372036854775807) := by omega
      have hm : IntKind.i64.max = 9223372036854775807 := rfl
      simp only [execOp, hop, e1, e2, guard_str, binOp, Op.stringOp, hm, if_neg hn, Sem.run_bind, Result.andThen_ok]
      rfl
    · simp only [Option.some.injEq, Prod.mk.injEq] at hp
      obtain ⟨_, rfl⟩ := hp
      exact ⟨_, by simp [execOp, hop, e1, e2, guard_str, binOp, Op.stringOp], V2.mkpv (.bool _)⟩
    · simp only [Option.some.injEq, Prod.mk.injEq] at hp
      obtain ⟨_, rfl⟩ := hp
      exact ⟨_, by simp [execOp, hop, e1, e2, guard_str, binOp, Op.stringOp], V2.mkpv (.bool _)⟩
    · cases hp
  · cases hp
theorem ps_slen (H : OpdR fp site w ρ g) (h : okP P .slen xs o.op = true) (hp : pval .slen (xs.map g) = some (c, r)) (hc : c) : PS P fp site w ρ o r := by
  cases hop : o.op <;> simp only [okP, hop, Bool.false_eq_true] at h
  rename_i cl
  simp only [Bool.and_eq_true] at h
  obtain ⟨hf, h⟩ := h
  split at hf
  · rename_i hcal
    split at hf
    · rename_i t ht
      split at hf
      · rename_i hu
        have hat : cl.argTypes = #[t] := by cases hh : cl.argTypes with | mk l => simp only [hh] at ht; rw [ht]
        simp only [pval] at hp
        cases hl : cl.args.toList with
        | nil =>
          rw [hl] at h
          have := okXs_nil h
          subst this
          simp [pvSlen] at hp
        | cons y ys =>
          rw [hl] at h
          obtain ⟨x, rest, rfl, g1, g2⟩ := okXs_cons h
          cases ys with
          | nil =>
            have := okXs_nil g2
            subst this
            have hargs : cl.args = #[y] := by cases hh : cl.args with | mk l => simp only [hh] at hl; rw [hl]
            have H1 := H _ _ g1
            simp only [List.map, pvSlen] at hp
            split at hp
            · rename_i a e
              simp only [List.cons.injEq, and_true] at e
              rw [e] at H1
              have e1 := V2.str_eq H1
              simp only [Option.some.injEq, Prod.mk.injEq] at hp
              obtain ⟨_, rfl⟩ := hp
              exact ⟨.int .i64 a.size, by simp [execOp, hop, resolve, invoke, builtin, hcal, hargs, hat, Builtin.len_, run_underlying hu, e1, goInt], V2.mkpv (.int _ _)⟩
            · cases hp
          | cons y' ys' =>
            obtain ⟨x', rest', rfl, _, _⟩ := okXs_cons g2
            simp [pvSlen] at hp
      · cases hf
    · cases hf
  · cases hf
theorem ps_sidx (H : OpdR fp site w ρ g) (h : okP P .sidx xs o.op = true) (hp : pval .sidx (xs.map g) = some (c, r)) (hc : c) : PS P fp site w ρ o r := by
  cases hop : o.op <;> simp only [okP, hop, Bool.false_eq_true] at h
  rename_i t y y'
  simp only [Bool.and_eq_true] at h
  obtain ⟨hf, h⟩ := h
  obtain ⟨x, x', rfl, h1, h2⟩ := okXs2 h
  have H1 := H _ _ h1
  have H2 := H _ _ h2
  split at hf
  · rename_i hu
    simp only [List.map, pval, pvSidx] at hp
    split at hp
    · rename_i b k i e
      simp only [List.cons.injEq, and_true] at e
      rw [e.1] at H1
      rw [e.2] at H2
      have e2 := H2.int
      have e1 := V2.str_eq H1
      simp only [Option.some.injEq, Prod.mk.injEq] at hp
      obtain ⟨rfl, rfl⟩ := hp
      obtain ⟨q1, q2⟩ := hc
      have hlt : i.toNat < b.size := by
        have : b.size = b.data.size := rfl
        omega
      have hg : b[i.toNat]? = some b[i.toNat] := getElem?_pos b i.toNat hlt
      have hd : b.data.getD i.toNat 0 = b[i.toNat] := by
        have hlt' : i.toNat < b.data.size := hlt
        rw [Array.getD_eq_getD_getElem?, Array.getElem?_eq_getElem hlt']
        rfl
      refine ⟨.int .u8 (b[i.toNat].toNat : Nat), by simp [execOp, hop, Instr.index, e1, e2, asIntOf, run_underlying hu, q1, hg], ?_⟩
      rw [hd]
      exact V2.mkpv (.int _ _)
    · cases hp
  · cases hf

theorem ckAll_app : ∀ {ks ks' : List CK} {l : List PV}, ckAll (ks ++ ks') l = true → ckAll ks (l.take ks.length) = true ∧ ckAll ks' (l.drop ks.length) = true
  | [], _, _, h => ⟨by simp [ckAll], by simpa using h⟩
  | _ :: _, _, [], h => by simp [ckAll] at h
  | c :: ks, ks', p :: l, h => by
    simp only [List.cons_append, ckAll, Bool.and_eq_true] at h
    obtain ⟨h1, h2⟩ := h
    obtain ⟨a, b⟩ := ckAll_app h2
    exact ⟨by simp [ckAll, h1, a], by simpa using b⟩
theorem ckAll_len : ∀ {ks : List CK} {l : List PV}, ckAll ks l = true → l.length = ks.length
  | [], [], _ => rfl
  | [], _ :: _, h => by simp [ckAll] at h
  | _ :: _, [], h => by simp [ckAll] at h
  | c :: ks, p :: l, h => by
    simp only [ckAll, Bool.and_eq_true] at h
    simp [ckAll_len h.2]
theorem eqPVs_app : ∀ {a b c d : List PV}, a.length = b.length → eqPVs (a ++ c) (b ++ d) = (eqPVs a b && eqPVs c d)
  | [], [], _, _, _ => by simp [eqPVs]
  | [], _ :: _, _, _, h => by simp at h
  | _ :: _, [], _, _, h => by simp at h
  | x :: a, y :: b, c, d, h => by
    simp only [List.cons_append, eqPVs]
    rw [eqPVs_app (by simpa using h), Bool.and_assoc]
theorem eqPVs_cut (n : Nat) {l m : List PV} (h : l.length = m.length) : eqPVs l m = (eqPVs (l.take n) (m.take n) && eqPVs (l.drop n) (m.drop n)) := by
  conv => lhs; rw [← List.take_append_drop n l, ← List.take_append_drop n m]
  exact eqPVs_app (by simp [h])
/-- A value of a type, by its cells. -/
def V2t (P : Program) (fp : Nat → Nat → Prop) (site : Nat → Option Nat) (w : World) (t : TypeId) (l : List PV) (v : Value) : Prop := match isAggT P t with
  | some true => V2 fp site w v (.pagg l)
  | some false => ∃ p, l = [p] ∧ V2 fp site w v (.pv p)
  | none => False
theorem V2t_part {t : TypeId} {ks : List CK} {pn : Option Nat} (hn : partN P t ks = some pn) {L : List PV} {v : Value} (hv : V2 fp site w v (.pagg L)) {off : Nat} (ho : off + ks.length ≤ L.length) :
    ∃ cs u, v = .agg cs ∧ (part t cs off).run P w = .ok u w ∧ V2t P fp site w t ((L.drop off).take ks.length) u := by
  unfold partN at hn
  split at hn
  · rename_i ha
    split at hn
    · rename_i hk
      obtain ⟨hk1, hk2⟩ := hk
      obtain ⟨p, hp⟩ : ∃ p, L[off]? = some p := ⟨_, List.getElem?_eq_getElem (by omega)⟩
      obtain ⟨cs, u, e, hrun, hu⟩ := run_part (P := P) (r := .pv p) (n := none) (o := off) hv (by simp [part1, getc, hp]) trivial hk2
      refine ⟨cs, u, e, hrun, ?_⟩
      unfold V2t
      rw [ha]
      refine ⟨p, ?_, hu⟩
      rw [hk1, List.take_one, List.head?_drop, hp]
      rfl
    · cases hn
  · rename_i ha
    split at hn
    · rename_i hk
      obtain ⟨cs, u, e, hrun, hu⟩ := run_part (P := P) (r := .pagg ((L.drop off).take ks.length)) (n := some ks.length) (o := off) hv (by simp [part1, getr, ho]) trivial hk
      refine ⟨cs, u, e, hrun, ?_⟩
      unfold V2t
      rw [ha]
      exact hu
    · cases hn
  · cases hn
def EqOK (P : Program) (fp : Nat → Nat → Prop) (site : Nat → Option Nat) (w : World) (D : Nat) (t : TypeId) (ks : List CK) : Prop :=
  ∀ l m v v', ckAll ks l = true → ckAll ks m = true → V2t P fp site w t l v → V2t P fp site w t m v' → (Op.equalIn D t v v').run P w = .ok (eqPVs l m) w
theorem eqKF_sound {D : Nat} {rec : TypeId → Option (List CK)} (hrec : ∀ t ks, rec t = some ks → EqOK P fp site w D t ks) {cs ds : Array Value} {L M : List PV}
    (h1 : V2 fp site w (.agg cs) (.pagg L)) (h2 : V2 fp site w (.agg ds) (.pagg M)) (hLM : L.length = M.length) : ∀ (fs : List Field) (off : Nat) (ks : List CK), eqKF P rec fs off = some ks → off ≤ L.length →
      ckAll ks (L.drop off) = true → ckAll ks (M.drop off) = true → (Op.eqFields D cs ds fs).run P w = .ok (eqPVs (L.drop off) (M.drop off)) w
  | [], off, ks, hk, ho, c1, c2 => by
    simp only [eqKF, Option.some.injEq] at hk
    subst hk
    have e1 := List.eq_nil_of_length_eq_zero (ckAll_len c1)
    have e2 := List.eq_nil_of_length_eq_zero (ckAll_len c2)
    rw [e1, e2]
    simp [Op.eqFields, eqPVs]
  | f :: fs, off, ks, hk, ho, c1, c2 => by
    simp only [eqKF] at hk
    split at hk
    · rename_i hf
      obtain ⟨hf1, hf2⟩ := hf
      split at hk
      · rename_i ks1 hr
        split at hk
        · rename_i pn hpn
          split at hk
          · rename_i ks2 hk2
            simp only [Option.some.injEq] at hk
            subst hk
            have l1 := ckAll_len c1
            rw [List.length_append, List.length_drop] at l1
            obtain ⟨a1, a2⟩ := ckAll_app c1
            obtain ⟨b1, b2⟩ := ckAll_app c2
            rw [List.drop_drop] at a2 b2
            have hoff : off + ks1.length ≤ L.length := by omega
            obtain ⟨cs', u, e, hrun1, hu1⟩ := V2t_part (P := P) hpn h1 hoff
            cases e
            obtain ⟨ds', u', e, hrun2, hu2⟩ := V2t_part (P := P) hpn h2 (show off + ks1.length ≤ M.length by omega)
            cases e
            have hq := hrec _ _ hr _ _ _ _ a1 b1 hu1 hu2
            have ih := eqKF_sound hrec h1 h2 hLM fs (off + ks1.length) ks2 hk2 hoff a2 b2
            rw [eqPVs_cut ks1.length (by simp [hLM])]
            rw [List.drop_drop, List.drop_drop]
            subst hf2
            simp only [Op.eqFields, hf1, ne_eq, not_false_eq_true, if_true, Sem.run_bind, hrun1, hrun2, Result.andThen_ok, hq]
            cases hb : eqPVs ((L.drop f.offset).take ks1.length) ((M.drop f.offset).take ks1.length)
            · simp
            · simpa using ih
          · cases hk
        · cases hk
      · cases hk
    · cases hk

theorem eqArr_sound {D : Nat} {e : TypeId} {ks : List CK} {pn : Option Nat} (hq : EqOK P fp site w D e ks) (hpn : partN P e ks = some pn) {cs ds : Array Value} {L M : List PV}
    (h1 : V2 fp site w (.agg cs) (.pagg L)) (h2 : V2 fp site w (.agg ds) (.pagg M)) (hLM : L.length = M.length) : ∀ (k i : Nat), i * ks.length ≤ L.length →
      ckAll (List.replicate k ks).flatten (L.drop (i * ks.length)) = true → ckAll (List.replicate k ks).flatten (M.drop (i * ks.length)) = true →
      (Op.eqItems D e ks.length cs ds (List.range' i k)).run P w = .ok (eqPVs (L.drop (i * ks.length)) (M.drop (i * ks.length))) w
  | 0, i, ho, c1, c2 => by
    have e1 := List.eq_nil_of_length_eq_zero (ckAll_len c1)
    have e2 := List.eq_nil_of_length_eq_zero (ckAll_len c2)
    rw [e1, e2]
    simp [Op.eqItems, eqPVs]
  | k + 1, i, ho, c1, c2 => by
    rw [List.replicate_succ, List.flatten_cons] at c1 c2
    have l1 := ckAll_len c1
    rw [List.length_append, List.length_drop] at l1
    obtain ⟨a1, a2⟩ := ckAll_app c1
    obtain ⟨b1, b2⟩ := ckAll_app c2
    have hs : i * ks.length + ks.length = (i + 1) * ks.length := (Nat.succ_mul _ _).symm
    rw [List.drop_drop, hs] at a2 b2
    have hoff : i * ks.length + ks.length ≤ L.length := by omega
    obtain ⟨cs', u, e, hrun1, hu1⟩ := V2t_part (P := P) hpn h1 hoff
    cases e
    obtain ⟨ds', u', e, hrun2, hu2⟩ := V2t_part (P := P) hpn h2 (show i * ks.length + ks.length ≤ M.length by omega)
    cases e
    have hq1 := hq _ _ _ _ a1 b1 hu1 hu2
    have ih := eqArr_sound hq hpn h1 h2 hLM k (i + 1) (by omega) a2 b2
    rw [eqPVs_cut ks.length (by simp [hLM]), List.drop_drop, List.drop_drop, hs]
    rw [List.range'_succ]
    simp only [Op.eqItems, Sem.run_bind, hrun1, hrun2, Result.andThen_ok, hq1]
    cases hb : eqPVs ((L.drop (i * ks.length)).take ks.length) ((M.drop (i * ks.length)).take ks.length)
    · simp
    · simpa using ih
theorem eqK_sound : ∀ (d : Nat) (t : TypeId) (ks : List CK), eqK P d t = some ks → ∀ D, d ≤ D → EqOK P fp site w D t ks
  | 0, _, _, h, _, _ => by simp [eqK] at h
  | d + 1, t, ks, h, 0, hD => by omega
  | d + 1, t, ks, h, D + 1, hD => by
    intro l m v v' hl hm hv hv'
    have ih := fun t ks h => eqK_sound d t ks h D (by omega)
    simp only [eqK] at h
    split at h
    · rename_i hu
      simp only [Option.some.injEq] at h
      subst h
      have hg : isAggT P t = some false := by simp [isAggT, hu]
      unfold V2t at hv hv'
      rw [hg] at hv hv'
      obtain ⟨p, rfl, hv⟩ := hv
      obtain ⟨q, rfl, hv'⟩ := hv'
      cases p <;> simp [ckAll, ckOne] at hl
      cases q <;> simp [ckAll, ckOne] at hm
      have e1 := hv.bool
      have e2 := hv'.bool
      subst e1 e2
      simp [Op.equalIn, run_underlying hu, eqPVs, eqPV]
    · rename_i k hu
      simp only [Option.some.injEq] at h
      subst h
      have hg : isAggT P t = some false := by simp [isAggT, hu]
      unfold V2t at hv hv'
      rw [hg] at hv hv'
      obtain ⟨p, rfl, hv⟩ := hv
      obtain ⟨q, rfl, hv'⟩ := hv'
      cases p <;> simp [ckAll, ckOne] at hl
      cases q <;> simp [ckAll, ckOne] at hm
      have e1 := hv.int
      have e2 := hv'.int
      subst e1 e2 hl hm
      simp [Op.equalIn, run_underlying hu, eqPVs, eqPV]
    · rename_i hu
      simp only [Option.some.injEq] at h
      subst h
      have hg : isAggT P t = some false := by simp [isAggT, hu]
      unfold V2t at hv hv'
      rw [hg] at hv hv'
      obtain ⟨p, rfl, hv⟩ := hv
      obtain ⟨q, rfl, hv'⟩ := hv'
      cases p <;> simp [ckAll, ckOne] at hl
      cases q <;> simp [ckAll, ckOne] at hm
      have e1 := V2.str_eq hv
      have e2 := V2.str_eq hv'
      subst e1 e2
      simp [Op.equalIn, run_underlying hu, eqPVs, eqPV]
    · rename_i fs hu
      split at h
      · rename_i hst
        have hg : isAggT P t = some true := by simp [isAggT, hu]
        unfold V2t at hv hv'
        rw [hg] at hv hv'
        obtain ⟨⟨cs, rfl, p1⟩, _⟩ := id hv
        obtain ⟨⟨ds, rfl, p2⟩, _⟩ := id hv'
        have hfs : P.fieldsOf t = fs := by simp [Program.fieldsOf, hu]
        rw [run_equalIn_struct w D t cs ds (by rw [hfs]; exact hu) hst, hfs]
        have := eqKF_sound ih hv hv' (by rw [ckAll_len hl, ckAll_len hm]) fs.toList 0 ks h (Nat.zero_le _) hl hm
        simpa using this
      · cases h
    · rename_i n e hu
      split at h
      · rename_i ks1 hr
        split at h
        · rename_i pn hpn
          split at h
          · rename_i hce
            simp only [Option.some.injEq] at h
            subst h
            have hg : isAggT P t = some true := by simp [isAggT, hu]
            unfold V2t at hv hv'
            rw [hg] at hv hv'
            obtain ⟨⟨cs, rfl, p1⟩, _⟩ := id hv
            obtain ⟨⟨ds, rfl, p2⟩, _⟩ := id hv'
            obtain ⟨ie, hie⟩ : ∃ i, P.info? e = some i := by
              unfold partN at hpn
              split at hpn
              · rename_i ha
                unfold isAggT at ha
                cases hd : P.underlying e with
                | none => simp [hd] at ha
                | some _ => exact info_of_underlying hd
              · rename_i ha
                unfold isAggT at ha
                cases hd : P.underlying e with
                | none => simp [hd] at ha
                | some _ => exact info_of_underlying hd
              · cases hpn
            rw [run_equalIn_array w D cs ds hu hie, hce, List.range_eq_range']
            have := eqArr_sound (ih _ _ hr) hpn hv hv' (by rw [ckAll_len hl, ckAll_len hm]) n 0 (by omega) (by simpa using hl) (by simpa using hm)
            simpa using this
          · cases h
        · cases h
      · cases h
    · cases h
theorem ps_seq {neg : Bool} {ks : List CK} (H : OpdR fp site w ρ g) (h : okP P (.seq neg ks) xs o.op = true) (hp : pval (.seq neg ks) (xs.map g) = some (c, r)) (hc : c) : PS P fp site w ρ o r := by
  cases hop : o.op <;> simp only [okP, hop, Bool.false_eq_true] at h
  rename_i op' t y y' t'
  simp only [Bool.and_eq_true, decide_eq_true_eq, Bool.not_eq_true'] at h
  obtain ⟨⟨⟨⟨rfl, hk⟩, hagg⟩, hgd⟩, h⟩ := h
  obtain ⟨x, x', rfl, h1, h2⟩ := okXs2 h
  have H1 := H _ _ h1
  have H2 := H _ _ h2
  simp only [List.map, pval, pvSeq] at hp
  split at hp
  · rename_i l m e
    simp only [List.cons.injEq, and_true] at e
    rw [e.1] at H1
    rw [e.2] at H2
    obtain ⟨⟨cs, e1, p1⟩, _⟩ := id H1
    obtain ⟨⟨ds, e2, p2⟩, _⟩ := id H2
    simp only [Option.some.injEq, Prod.mk.injEq] at hp
    obtain ⟨rfl, rfl⟩ := hp
    obtain ⟨q1, q2⟩ := hc
    have hrun : (Op.equalIn 10000 t (ρ y) (ρ y')).run P w = .ok (eqPVs l m) w := eqK_sound 8 t ks hk 10000 (by decide) l m _ _ q1 q2 (by unfold V2t; rw [hagg]; exact H1) (by unfold V2t; rw [hagg]; exact H2)
    rw [e1, e2] at hrun
    have heq : (Op.equal t (.agg cs) (.agg ds)).run P w = .ok (eqPVs l m) w := hrun
    refine ⟨.bool (if neg then !eqPVs l m else eqPVs l m), ?_, V2.mkpv (.bool _)⟩
    cases neg <;> simp [execOp, hop, e1, e2, eqGuard, hgd, binOp, heq]
  · cases hp

theorem ps_un {op : UnOp} (H : OpdR fp site w ρ g) (h : okP P (.un op) xs o.op = true) (hp : pval (.un op) (xs.map g) = some (c, r)) (hc : c) : PS P fp site w ρ o r := by
  cases hop : o.op <;> simp only [okP, hop, Bool.false_eq_true] at h
  simp only [Bool.and_eq_true, decide_eq_true_eq] at h
  obtain ⟨rfl, h⟩ := h
  obtain ⟨x, rfl, h1⟩ := okXs1 h
  have H1 := H _ _ h1
  simp only [List.map, pval, pvUn] at hp
  split at hp
  · rename_i b e
    simp only [List.cons.injEq, and_true] at e
    rw [e] at H1
    have e1 := H1.bool
    split at hp
    · rename_i ho
      subst ho
      simp only [Option.some.injEq, Prod.mk.injEq] at hp
      obtain ⟨_, rfl⟩ := hp
      exact ⟨_, by simp [execOp, hop, e1, Op.unary], V2.mkpv (.bool _)⟩
    · cases hp
  · rename_i k n e
    simp only [List.cons.injEq, and_true] at e
    rw [e] at H1
    have e1 := H1.int
    split at hp
    · rename_i ho
      subst ho
      simp only [Option.some.injEq, Prod.mk.injEq] at hp
      obtain ⟨_, rfl⟩ := hp
      exact ⟨_, by simp [execOp, hop, e1, Op.unary, Op.intArith], V2.mkpv (.int _ _)⟩
    · split at hp
      · rename_i ho
        subst ho
        simp only [Option.some.injEq, Prod.mk.injEq] at hp
        obtain ⟨_, rfl⟩ := hp
        exact ⟨_, by simp [execOp, hop, e1, Op.unary]; rfl, V2.mkpv (.int _ _)⟩
      · cases hp
  · cases hp

theorem ps_conv {k : IntKind} (H : OpdR fp site w ρ g) (h : okP P (.conv k) xs o.op = true) (hp : pval (.conv k) (xs.map g) = some (c, r)) (hc : c) : PS P fp site w ρ o r := by
  cases hop : o.op <;> simp only [okP, hop, Bool.false_eq_true] at h
  simp only [Bool.and_eq_true] at h
  obtain ⟨⟨hs, hd⟩, h⟩ := h
  obtain ⟨x, rfl, h1⟩ := okXs1 h
  have H1 := H _ _ h1
  obtain ⟨ds, hds⟩ := Option.isSome_iff_exists.1 hs
  rename_i src dst y
  have hdd : P.underlying dst = some (.int k) := by
    unfold uInt at hd
    split at hd
    · rename_i k' hk; simp at hd; subst hd; exact hk
    · cases hd
  simp only [List.map, pval, pvConv] at hp
  split at hp
  · rename_i k' n e
    simp only [List.cons.injEq, and_true] at e
    rw [e] at H1
    have e1 := H1.int
    simp only [Option.some.injEq, Prod.mk.injEq] at hp
    obtain ⟨_, rfl⟩ := hp
    exact ⟨_, by simp [execOp, hop, e1, convert, run_underlying hds, run_underlying hdd, Conv.intToInt], V2.mkpv (.int _ _)⟩
  · cases hp

theorem ps_field {off : Nat} {n : Option Nat} (H : OpdR fp site w ρ g) (h : okP P (.field off n) xs o.op = true) (hp : pval (.field off n) (xs.map g) = some (c, r)) (hc : c) : PS P fp site w ρ o r := by
  cases hop : o.op <;> simp only [okP, hop, Bool.false_eq_true] at h
  rename_i t y f
  simp only [Bool.and_eq_true] at h
  obtain ⟨hf, h⟩ := h
  obtain ⟨x, rfl, h1⟩ := okXs1 h
  have H1 := H _ _ h1
  split at hf
  · rename_i fd hfd
    simp only [Bool.and_eq_true, beq_iff_eq] at hf
    obtain ⟨rfl, hpt⟩ := hf
    unfold fieldOf at hfd
    split at hfd
    · rename_i fs hfs
      have key : ∀ a, part1 a fd.offset n = some r → a.isAgg → V2 fp site w (ρ y) a → PS P fp site w ρ o r := by
        intro a hr ha hv
        obtain ⟨cs, u, e, hrun, hv⟩ := run_part (P := P) hv hr ha hpt
        exact ⟨u, by simp [execOp, hop, Instr.field, e, run_underlying hfs, hfd, asAgg, hrun], hv⟩
      simp only [List.map, pval, pvField] at hp
      split at hp
      · rename_i l e
        simp only [List.cons.injEq, and_true] at e
        rw [e] at H1
        simp only [Option.map_eq_some_iff, Prod.mk.injEq] at hp
        obtain ⟨r', hr, _, rfl⟩ := hp
        exact key _ hr trivial H1
      · rename_i l e
        simp only [List.cons.injEq, and_true] at e
        rw [e] at H1
        simp only [Option.map_eq_some_iff, Prod.mk.injEq] at hp
        obtain ⟨r', hr, _, rfl⟩ := hp
        exact key _ hr trivial H1
      · cases hp
    · cases hfd
  · cases hf

theorem ps_index {len sz : Nat} {n : Option Nat} (H : OpdR fp site w ρ g) (h : okP P (.index len sz n) xs o.op = true) (hp : pval (.index len sz n) (xs.map g) = some (c, r)) (hc : c) : PS P fp site w ρ o r := by
  cases hop : o.op <;> simp only [okP, hop, Bool.false_eq_true] at h
  rename_i t y y'
  simp only [Bool.and_eq_true] at h
  obtain ⟨hf, h⟩ := h
  obtain ⟨x, x', rfl, h1, h2⟩ := okXs2 h
  have H1 := H _ _ h1
  have H2 := H _ _ h2
  split at hf
  · rename_i len' e' hfd
    simp only [Bool.and_eq_true, beq_iff_eq, szOf, decide_eq_true_eq] at hf
    obtain ⟨⟨rfl, hsz⟩, hpt⟩ := hf
    obtain ⟨inf, hi, hsn⟩ := Option.map_eq_some_iff.1 hsz
    unfold arrOf at hfd
    split at hfd <;> simp only [Option.some.injEq, Prod.mk.injEq, reduceCtorEq, false_and] at hfd
    rename_i n' e'' hu
    obtain ⟨rfl, rfl⟩ := hfd
    have key : ∀ a k i, (part1 a (i.toNat * sz) n).map (fun r => (0 ≤ i ∧ i < (n' : Int), r)) = some (c, r) → a.isAgg → V2 fp site w (ρ y) a → V2 fp site w (ρ y') (.pv (.int k i)) → PS P fp site w ρ o r := by
      intro a k i hr ha hv hv'
      simp only [Option.map_eq_some_iff, Prod.mk.injEq] at hr
      obtain ⟨r', hr, rfl, rfl⟩ := hr
      obtain ⟨cs, u, e, hrun, hv⟩ := run_part (P := P) hv hr ha hpt
      have e2 := hv'.int
      exact ⟨u, by simp [execOp, hop, Instr.index, e, e2, asIntOf, run_underlying hu, hc, sizeOf, typeInfo, hi, hsn, hrun], hv⟩
    simp only [List.map, pval, pvIndex] at hp
    split at hp
    · rename_i l k i e
      simp only [List.cons.injEq, and_true] at e
      rw [e.1] at H1
      rw [e.2] at H2
      exact key _ _ _ hp trivial H1 H2
    · rename_i l k i e
      simp only [List.cons.injEq, and_true] at e
      rw [e.1] at H1
      rw [e.2] at H2
      exact key _ _ _ hp trivial H1 H2
    · cases hp
  · cases hf

theorem ps_fieldAddr {off : Nat} (H : OpdR fp site w ρ g) (h : okP P (.fieldAddr off) xs o.op = true) (hp : pval (.fieldAddr off) (xs.map g) = some (c, r)) (hc : c) : PS P fp site w ρ o r := by
  cases hop : o.op <;> simp only [okP, hop, Bool.false_eq_true] at h
  rename_i t y f
  simp only [Bool.and_eq_true] at h
  obtain ⟨hf, h⟩ := h
  obtain ⟨x, rfl, h1⟩ := okXs1 h
  have H1 := H _ _ h1
  split at hf
  · rename_i fd hfd
    simp only [Bool.and_eq_true, beq_iff_eq] at hf
    obtain ⟨rfl, hpt⟩ := hf
    unfold fieldOf at hfd
    split at hfd
    · rename_i fs hfs
      split at hpt
      · rename_i m hm
        obtain ⟨inf, hi, hsn⟩ := Option.map_eq_some_iff.1 hm
        simp only [List.map, pval, pvFieldAddr] at hp
        split at hp
        · rename_i xx p e
          simp only [List.cons.injEq, and_true] at e
          rw [e] at H1
          simp only [Option.some.injEq, Prod.mk.injEq] at hp
          obtain ⟨_, rfl⟩ := hp
          obtain ⟨b, hb, e1⟩ := H1.ptr
          exact ⟨.pointer (some ⟨b, p + fd.offset, none⟩), by simp [execOp, hop, Instr.fieldAt, e1, run_underlying hfs, hfd, Instr.sureAddr, fieldPlace, sizeOf, typeInfo, hi, hsn, Addr.add_mid], V2.mkptr hb⟩
        · rename_i l e
          simp only [List.cons.injEq, and_true] at e
          rw [e] at H1
          simp only [Option.some.injEq, Prod.mk.injEq] at hp
          obtain ⟨_, rfl⟩ := hp
          obtain ⟨b, oo, e1, hl⟩ := H1.rp
          refine ⟨.pointer (some ⟨b, oo + fd.offset, none⟩), by simp [execOp, hop, Instr.fieldAt, e1, run_underlying hfs, hfd, Instr.sureAddr, fieldPlace, sizeOf, typeInfo, hi, hsn, Addr.add_mid], V2.mkrp fun j p hj => ?_⟩
          rw [List.getElem?_drop] at hj
          rw [Nat.add_assoc]
          exact hl _ p hj
        · cases hp
      · cases hpt
    · cases hfd
  · cases hf
end
end Go.Abs
end

section
/- The abstract machine's operations that only compute: addresses and slices. No condition. -/
namespace Go.Abs

section
variable {fp : Nat → Nat → Prop} {site : Nat → Option Nat} {w : World} {v : Value}
variable {P : Program} {ρ : Operand → Value} {g : Opd → AV} {o : Oper} {xs : List Opd} {c : Prop} {r : AV}

theorem okArr_spec {t : TypeId} {arr : Option Nat} {sz : Nat} (h : okArr P t arr sz = true) :
    ∃ e, (match arr with | none => P.underlying t = some (.slice e) | some n => P.underlying t = some (.array n e)) ∧ (∀ w, (sizeOf e).run P w = .ok sz w) ∧ 0 < sz := by
  unfold okArr at h
  split at h
  · rename_i arr' e he
    simp only [Bool.and_eq_true, decide_eq_true_eq, szOf] at h
    obtain ⟨⟨rfl, hs⟩, hp⟩ := h
    obtain ⟨i, hi, hn⟩ := Option.map_eq_some_iff.1 hs
    unfold arrOf at he
    split at he <;> simp only [Option.some.injEq, Prod.mk.injEq, reduceCtorEq, false_and] at he
    all_goals
      obtain ⟨rfl, rfl⟩ := he
      rename_i hu
      exact ⟨_, hu, fun w => by simp [sizeOf, typeInfo, hi, hn], hp⟩
  · cases h

/-- What is read of a slice by its contents. -/
theorem PR.slInv {sz : Nat} {es : List (List PV)} (h : PR fp w v (.sl sz es)) : ∃ A cap, v = .slice A es.length cap ∧ es.length ≤ cap ∧ cap ≤ maxLen ∧ (A = none → cap = 0) ∧
    (es ≠ [] → ∃ b o, A = some ⟨b, o, none⟩ ∧ (∀ r ∈ es, r.length = sz) ∧
      ∀ i r j p, es[i]? = some r → r[j]? = some p → fp b (o + i * sz + j) ∧ ∃ u, w.cell? ⟨b, o + i * sz + j, none⟩ = some u ∧ PR fp w u p) := by
  cases h with
  | sl0 A cap _ h1 h2 => exact ⟨A, cap, rfl, Nat.zero_le _, h1, h2, fun h => absurd rfl h⟩
  | sl b o cap _ _ f h1 h2 h3 h4 h5 =>
    refine ⟨_, cap, rfl, h1, h2, (fun h => by cases h), fun _ => ⟨b, o, rfl, h3, fun i r j p hi hj => ?_⟩⟩
    have hj' : j < sz := by
      rw [← h3 r (List.mem_of_getElem? hi)]
      exact (List.getElem?_eq_some_iff.1 hj).1
    obtain ⟨a1, a2⟩ := h4 i r j hi hj'
    exact ⟨a1, _, a2, h5 i r j p hi hj⟩

theorem PR.mksl {b o cap sz : Nat} {es : List (List PV)} (h1 : es.length ≤ cap) (h2 : cap ≤ maxLen) (h3 : ∀ r ∈ es, r.length = sz)
    (h4 : ∀ i r j p, es[i]? = some r → r[j]? = some p → fp b (o + i * sz + j) ∧ ∃ u, w.cell? ⟨b, o + i * sz + j, none⟩ = some u ∧ PR fp w u p) : PR fp w (.slice (some ⟨b, o, none⟩) es.length cap) (.sl sz es) := by
  classical
  refine .sl b o cap sz es (fun i j => (w.cell? ⟨b, o + i * sz + j, none⟩).getD Go.undef) h1 h2 h3 (fun i r j hi hj => ?_) (fun i r j p hi hj => ?_)
  · have hl := h3 r (List.mem_of_getElem? hi)
    obtain ⟨a1, u, a2, _⟩ := h4 i r j _ hi (List.getElem?_eq_getElem (by omega))
    exact ⟨a1, by simp [a2]⟩
  · obtain ⟨_, u, a2, a3⟩ := h4 i r j p hi hj
    simpa [a2] using a3

theorem asIntOf_run (k : IntKind) (n : Int) : (asIntOf (.int k n)).run P w = .ok (k, n) w := rfl

theorem run_sliceBound {k : IntKind} {i : Int} {y : Nat} {code : BoundsCode} (h : 0 ≤ i ∧ i ≤ y) : (Instr.sliceBound (.int k i) y code).run P w = .ok i.toNat w := by
  simp [Instr.sliceBound, asIntOf_run, h]

/-- The bounds of a slice expression, as the model finds them. -/
theorem run_bnds {n cap : Nat} {isSl lo hi : Bool} {l h : Option Operand} (H : OpdR fp site w ρ g) (hl : lo = l.isSome) (hh : hi = h.isSome) {xs : List Opd} (hx : okXs xs (l.toList ++ h.toList) = true)
    {c : Prop} {a b : Nat} (hb : bnds n lo hi (xs.map g) = some (c, a, b)) (hc : c) (hn : n ≤ cap) :
    (Instr.sliceBounds isSl n cap (l.map ρ) (h.map ρ) none).run P w = .ok (a, b, cap) w ∧ a ≤ b ∧ b ≤ n := by
  subst hl hh
  cases l with
  | none => cases h with
    | none =>
      have := okXs_nil hx
      subst this
      simp [bnds] at hb
      obtain ⟨h0, rfl, rfl⟩ := hb
      exact ⟨by simp [Instr.sliceBounds], by omega, by omega⟩
    | some y =>
      obtain ⟨x, rfl, h1⟩ := okXs1 (by simpa using hx)
      have H1 := H _ _ h1
      simp only [List.map] at hb
      unfold bnds at hb
      split at hb <;> simp at hb
      rename_i k i e
      simp only [List.cons.injEq, and_true] at e
      rw [e] at H1
      obtain ⟨h0, rfl, rfl⟩ := hb
      have hc := h0.2 hc
      refine ⟨?_, by omega, by omega⟩
      have hc' : 0 ≤ i ∧ i ≤ cap := by omega
      simp [Instr.sliceBounds, H1.int, run_sliceBound hc']
  | some z => cases h with
    | none =>
      obtain ⟨x, rfl, h1⟩ := okXs1 (by simpa using hx)
      have H1 := H _ _ h1
      simp only [List.map] at hb
      unfold bnds at hb
      split at hb <;> simp at hb
      rename_i k i e
      simp only [List.cons.injEq, and_true] at e
      rw [e] at H1
      obtain ⟨h0, rfl, rfl⟩ := hb
      have hc := h0.2 hc
      refine ⟨?_, by omega, by omega⟩
      simp [Instr.sliceBounds, H1.int, run_sliceBound hc]
    | some y =>
      obtain ⟨x, x', rfl, h1, h2⟩ := okXs2 (by simpa using hx)
      have H1 := H _ _ h1
      have H2 := H _ _ h2
      simp only [List.map] at hb
      unfold bnds at hb
      split at hb <;> simp at hb
      rename_i k i k' j e
      simp only [List.cons.injEq, and_true] at e
      rw [e.1] at H1
      rw [e.2] at H2
      obtain ⟨h0, rfl, rfl⟩ := hb
      have hc := h0.2 hc
      have hc1 : 0 ≤ j ∧ j ≤ cap := by omega
      have hc2 : 0 ≤ i ∧ i ≤ (j.toNat : Int) := by omega
      refine ⟨?_, by omega, by omega⟩
      simp [Instr.sliceBounds, H1.int, H2.int, run_sliceBound hc1, run_sliceBound hc2]

theorem ps_indexAddr {arr : Option Nat} {sz : Nat} (H : OpdR fp site w ρ g) (h : okP P (.indexAddr arr sz) xs o.op = true) (hp : pval (.indexAddr arr sz) (xs.map g) = some (c, r)) (hc : c) : PS P fp site w ρ o r := by
  cases hop : o.op <;> simp only [okP, hop, Bool.false_eq_true] at h
  rename_i t y y'
  simp only [Bool.and_eq_true] at h
  obtain ⟨hf, h⟩ := h
  obtain ⟨x, x', rfl, h1, h2⟩ := okXs2 h
  have H1 := H _ _ h1
  have H2 := H _ _ h2
  obtain ⟨e, hu, hsz, hpos⟩ := okArr_spec hf
  cases arr with
  | some n =>
    simp only at hu
    simp only [List.map, pval, pvIndexArr] at hp
    split at hp
    · rename_i xx p k i e
      simp only [List.cons.injEq, and_true] at e
      rw [e.1] at H1
      rw [e.2] at H2
      simp only [Option.some.injEq, Prod.mk.injEq] at hp
      obtain ⟨rfl, rfl⟩ := hp
      obtain ⟨b, hb, e1⟩ := H1.ptr
      exact ⟨.pointer (some ⟨b, p + i.toNat * sz, none⟩), by simp [execOp, hop, Instr.indexAt, e1, H2.int, asIntOf_run, run_underlying hu, Instr.sureAddr, hc, hsz, Addr.add_mid], V2.mkptr hb⟩
    · rename_i l k i e
      simp only [List.cons.injEq, and_true] at e
      rw [e.1] at H1
      rw [e.2] at H2
      simp only [Option.some.injEq, Prod.mk.injEq] at hp
      obtain ⟨rfl, rfl⟩ := hp
      obtain ⟨b, oo, e1, hl⟩ := H1.rp
      refine ⟨.pointer (some ⟨b, oo + i.toNat * sz, none⟩), by simp [execOp, hop, Instr.indexAt, e1, H2.int, asIntOf_run, run_underlying hu, Instr.sureAddr, hc, hsz, Addr.add_mid], V2.mkrp fun j p hj => ?_⟩
      rw [List.getElem?_drop] at hj
      rw [Nat.add_assoc]
      exact hl _ p hj
    · cases hp
  | none =>
    simp only at hu
    simp only [List.map, pval, pvIndexSl] at hp
    split at hp
    · rename_i sz' es k i e
      simp only [List.cons.injEq, and_true] at e
      rw [e.1] at H1
      rw [e.2] at H2
      split at hp
      · rename_i row hrow
        simp only [Option.some.injEq, Prod.mk.injEq] at hp
        obtain ⟨rfl, rfl⟩ := hp
        obtain ⟨hi, rfl⟩ := hc
        have hlt := (List.getElem?_eq_some_iff.1 hrow).1
        obtain ⟨A, cap, e1, _, _, _, hne⟩ := H1.pv.slInv
        obtain ⟨b, oo, rfl, hlen, hcell⟩ := hne (by intro hh; rw [hh] at hlt; simp at hlt)
        have hc2 : 0 ≤ i ∧ i < (es.length : Int) := by omega
        refine ⟨.pointer (some ⟨b, oo + i.toNat * sz', none⟩), by simp [execOp, hop, Instr.indexAt, e1, H2.int, asIntOf_run, run_underlying hu, hc2, hsz, Addr.add_mid], V2.mkrp fun j p hj => hcell _ _ _ _ hrow hj⟩
      · cases hp
    · rename_i xx oo len sz' k i e
      simp only [List.cons.injEq, and_true] at e
      rw [e.1] at H1
      rw [e.2] at H2
      simp only [Option.some.injEq, Prod.mk.injEq] at hp
      obtain ⟨rfl, rfl⟩ := hp
      obtain ⟨hi, hi2, rfl⟩ := hc
      obtain ⟨b, cap, hb, e1, _, _⟩ := H1.sr
      exact ⟨.pointer (some ⟨b, oo + i.toNat * sz', none⟩), by simp [execOp, hop, Instr.indexAt, e1, H2.int, asIntOf_run, run_underlying hu, hi, hi2, hsz, Addr.add_mid], V2.mkptr hb⟩
    · cases hp

theorem getElem?_take_drop {α : Type} {l : List α} {a b i : Nat} {x : α} (h : ((l.take b).drop a)[i]? = some x) : l[a + i]? = some x ∧ a + i < b := by
  rw [List.getElem?_drop, List.getElem?_take] at h
  split at h
  · exact ⟨h, by assumption⟩
  · cases h

theorem ps_slice {arr : Option Nat} {sz : Nat} {lo hi : Bool} (H : OpdR fp site w ρ g) (h : okP P (.slice arr sz lo hi) xs o.op = true) (hp : pval (.slice arr sz lo hi) (xs.map g) = some (c, r)) (hc : c) : PS P fp site w ρ o r := by
  cases hop : o.op <;> simp only [okP, hop, Bool.false_eq_true] at h
  rename_i t y l hh mx
  simp only [Bool.and_eq_true, decide_eq_true_eq, Option.isNone_iff_eq_none] at h
  obtain ⟨⟨⟨⟨⟨hf, hsmall⟩, hl⟩, hhi⟩, rfl⟩, h⟩ := h
  obtain ⟨x, rest, rfl, h1, h2⟩ := okXs_cons h
  have H1 := H _ _ h1
  obtain ⟨e, hu, hsz, hpos⟩ := okArr_spec hf
  cases arr with
  | some n =>
    simp only at hu
    simp only [List.map, pval, pvSliceArr] at hp
    split at hp
    · rename_i xx p rr e
      simp only [List.cons.injEq] at e
      obtain ⟨e, rfl⟩ := e
      rw [e] at H1
      simp only [Option.map_eq_some_iff, Prod.mk.injEq] at hp
      obtain ⟨⟨c', a, b⟩, hb, rfl, rfl⟩ := hp
      obtain ⟨hc', hlt⟩ := hc
      dsimp only at hlt hc'
      obtain ⟨hrun, hab, hbn⟩ := run_bnds (P := P) (isSl := false) H hl hhi h2 hb hc' (Nat.le_refl n)
      obtain ⟨blk, hs, e1⟩ := H1.ptr
      have hca : n ≠ a := by omega
      have hmax : n - a ≤ maxLen := by simp only [Option.getD_some] at hsmall; unfold maxLen; omega
      exact ⟨.slice (some ⟨blk, p + a * sz, none⟩) (b - a) (n - a), by simp [execOp, hop, Instr.sliceAt, e1, Instr.sureAddr, run_underlying hu, hrun, hsz, hca, Addr.add_mid], V2.mksr hs (by omega) hmax⟩
    · rename_i ll rr e
      simp only [List.cons.injEq] at e
      obtain ⟨e, rfl⟩ := e
      rw [e] at H1
      simp only [Option.map_eq_some_iff, Prod.mk.injEq] at hp
      obtain ⟨⟨c', a, b⟩, hb, rfl, rfl⟩ := hp
      obtain ⟨hc', hlt, rfl, hll⟩ := hc
      dsimp only at hlt hc'
      obtain ⟨hrun, hab, hbn⟩ := run_bnds (P := P) (isSl := false) H hl hhi h2 hb hc' (Nat.le_refl n)
      obtain ⟨blk, p, e1, hcell⟩ := H1.rp
      have hca : n ≠ a := by omega
      have hmax : n - a ≤ maxLen := by simp only [Option.getD_some] at hsmall; unfold maxLen; omega
      have hlen : (((ll.take b).drop a).map fun q => [q]).length = b - a := by simp; omega
      refine ⟨.slice (some ⟨blk, p + a * 1, none⟩) (b - a) (n - a), by simp [execOp, hop, Instr.sliceAt, e1, Instr.sureAddr, run_underlying hu, hrun, hsz, hca, Addr.add_mid], V2.mkpv ?_⟩
      by_cases hz : b - a = 0
      · have : (((ll.take b).drop a).map fun q => [q]) = [] := List.eq_nil_of_length_eq_zero (by omega)
        dsimp only
        rw [this, hz]
        exact .sl0 _ _ _ (by omega) fun hA => by cases hA
      · dsimp only
        rw [← hlen]
        refine PR.mksl (by omega) (by omega) (fun r hr => by obtain ⟨q, _, rfl⟩ := List.mem_map.1 hr; rfl) fun i r j q hi hj => ?_
        rw [List.getElem?_map, Option.map_eq_some_iff] at hi
        obtain ⟨q', hq', rfl⟩ := hi
        cases j with
        | succ j => simp at hj
        | zero =>
          simp only [List.getElem?_cons_zero, Option.some.injEq] at hj
          subst hj
          obtain ⟨g1, _⟩ := getElem?_take_drop hq'
          have := hcell _ _ g1
          rwa [show p + a * 1 + i * 1 + 0 = p + (a + i) by omega]
    · cases hp
  | none =>
    simp only at hu
    simp only [List.map, pval, pvSliceSl] at hp
    split at hp
    · rename_i sz' es rr e
      simp only [List.cons.injEq] at e
      obtain ⟨e, rfl⟩ := e
      rw [e] at H1
      simp only [Option.map_eq_some_iff, Prod.mk.injEq] at hp
      obtain ⟨⟨c', a, b⟩, hb, rfl, rfl⟩ := hp
      obtain ⟨rfl, hc'⟩ := hc
      obtain ⟨A, cap, e1, hcap, hmax, hnil, hne⟩ := H1.pv.slInv
      obtain ⟨hrun, hab, hbn⟩ := run_bnds (P := P) (isSl := true) (cap := cap) H hl hhi h2 hb hc' hcap
      have hlen : ((es.take b).drop a).length = b - a := by simp; omega
      refine ⟨.slice (if cap = a then A else A.map (·.add (a * sz'))) (b - a) (cap - a), by simp [execOp, hop, Instr.sliceAt, Instr.slice, e1, run_underlying hu, hrun, hsz], V2.mkpv ?_⟩
      by_cases hz : b - a = 0
      · have : (es.take b).drop a = [] := List.eq_nil_of_length_eq_zero (by omega)
        rw [this, hz]
        refine .sl0 _ _ _ (by omega) fun hA => ?_
        split at hA
        · omega
        · simp at hA; have := hnil hA; omega
      · have hne' : es ≠ [] := by intro hh; subst hh; simp at hbn; omega
        obtain ⟨blk, oo, rfl, hlens, hcell⟩ := hne hne'
        have hca : cap ≠ a := by omega
        simp only [hca, if_false, Option.map_some, Addr.add_mid]
        rw [← hlen]
        refine PR.mksl (by omega) (by omega) (fun r hr => hlens r (List.mem_of_mem_take (List.mem_of_mem_drop hr))) fun i r j p hi hj => ?_
        obtain ⟨g1, _⟩ := getElem?_take_drop hi
        have := hcell _ _ _ _ g1 hj
        rwa [show oo + a * sz' + i * sz' + j = oo + (a + i) * sz' + j by rw [Nat.add_mul]; omega]
    · rename_i xx oo n sz' rr e
      simp only [List.cons.injEq] at e
      obtain ⟨e, rfl⟩ := e
      rw [e] at H1
      simp only [Option.map_eq_some_iff, Prod.mk.injEq] at hp
      obtain ⟨⟨c', a, b⟩, hb, rfl, rfl⟩ := hp
      obtain ⟨rfl, hc', hlt⟩ := hc
      dsimp only at hlt hc'
      obtain ⟨blk, cap, hs, e1, hcap, hmax⟩ := H1.sr
      obtain ⟨hrun, hab, hbn⟩ := run_bnds (P := P) (isSl := true) (cap := cap) H hl hhi h2 hb hc' hcap
      have hca : cap ≠ a := by omega
      exact ⟨.slice (some ⟨blk, oo + a * sz', none⟩) (b - a) (cap - a), by simp [execOp, hop, Instr.sliceAt, Instr.slice, e1, run_underlying hu, hrun, hsz, hca, Addr.add_mid], V2.mksr hs (by omega) (by omega)⟩
    · cases hp
end
end Go.Abs
end

section
/- The abstract machine's operations that only compute: the rest, and all together. No condition. -/
namespace Go.Abs

theorem flat_get {α : Type} {sz : Nat} : ∀ {es : List (List α)} {j : Nat} {p : α}, (∀ r ∈ es, r.length = sz) → es.flatten[j]? = some p → ∃ i r k, es[i]? = some r ∧ r[k]? = some p ∧ j = i * sz + k := by
  intro es
  induction es with
  | nil => intro j p _ h; simp at h
  | cons r es ih =>
    intro j p hl h
    have hr := hl r (by simp)
    rw [List.flatten_cons] at h
    by_cases hj : j < r.length
    · rw [List.getElem?_append_left hj] at h
      exact ⟨0, r, j, rfl, h, by simp⟩
    · rw [List.getElem?_append_right (by omega)] at h
      obtain ⟨i, r', k, h1, h2, h3⟩ := ih (fun r hr => hl r (by simp [hr])) h
      exact ⟨i + 1, r', k, by simpa using h1, h2, by rw [Nat.add_mul]; omega⟩
theorem flat_len {α : Type} {sz : Nat} : ∀ {es : List (List α)}, (∀ r ∈ es, r.length = sz) → es.flatten.length = es.length * sz := by
  intro es
  induction es with
  | nil => intro _; simp
  | cons r es ih =>
    intro hl
    rw [List.flatten_cons, List.length_append, ih (fun r hr => hl r (by simp [hr])), hl r (by simp), List.length_cons, Nat.add_mul]
    omega
theorem flat_at {α : Type} {sz : Nat} : ∀ {es : List (List α)} {i k : Nat} {r : List α} {p : α}, (∀ r ∈ es, r.length = sz) → es[i]? = some r → r[k]? = some p → es.flatten[i * sz + k]? = some p := by
  intro es
  induction es with
  | nil => intro i k r p _ h; simp at h
  | cons r0 es ih =>
    intro i k r p hl h h'
    have hr := hl r0 (by simp)
    rw [List.flatten_cons]
    cases i with
    | zero =>
      simp at h
      subst h
      have := (List.getElem?_eq_some_iff.1 h').1
      rw [List.getElem?_append_left (by omega)]
      simpa using h'
    | succ i =>
      rw [List.getElem?_append_right (by rw [Nat.add_mul]; omega)]
      have := ih (fun r hr => hl r (by simp [hr])) (by simpa using h) h'
      rwa [show (i + 1) * sz + k - r0.length = i * sz + k by rw [Nat.add_mul]; omega]

section
variable {fp : Nat → Nat → Prop} {site : Nat → Option Nat} {w : World} {v : Value}
variable {P : Program} {ρ : Operand → Value} {g : Opd → AV} {o : Oper} {xs : List Opd} {c : Prop} {r : AV}

theorem ps_s2ap {n : Nat} (H : OpdR fp site w ρ g) (h : okP P (.s2ap n) xs o.op = true) (hp : pval (.s2ap n) (xs.map g) = some (c, r)) (hc : c) : PS P fp site w ρ o r := by
  cases hop : o.op <;> simp only [okP, hop, Bool.false_eq_true] at h
  rename_i t y
  simp only [Bool.and_eq_true] at h
  obtain ⟨hf, h⟩ := h
  obtain ⟨x, rfl, h1⟩ := okXs1 h
  have H1 := H _ _ h1
  split at hf
  · rename_i n' e hu
    simp only [beq_iff_eq] at hf
    subst hf
    simp only [List.map, pval, pvS2ap] at hp
    split at hp
    · rename_i xx p len sz e
      simp only [List.cons.injEq, and_true] at e
      rw [e] at H1
      simp only [Option.some.injEq, Prod.mk.injEq] at hp
      obtain ⟨rfl, rfl⟩ := hp
      obtain ⟨b, cap, hs, e1, _, _⟩ := H1.sr
      have hn : ¬ len < n := by omega
      exact ⟨.pointer (some ⟨b, p, none⟩), by simp [execOp, hop, Instr.arrayAt, e1, run_underlying hu, hn], V2.mkptr hs⟩
    · rename_i sz es e
      simp only [List.cons.injEq, and_true] at e
      rw [e] at H1
      simp only [Option.some.injEq, Prod.mk.injEq] at hp
      obtain ⟨rfl, rfl⟩ := hp
      obtain ⟨A, cap, e1, _, _, _, hne⟩ := H1.pv.slInv
      obtain ⟨b, oo, rfl, hlens, hcell⟩ := hne (by intro hh; subst hh; simp at hc)
      have hn : ¬ es.length < n := by omega
      refine ⟨.pointer (some ⟨b, oo, none⟩), by simp [execOp, hop, Instr.arrayAt, e1, run_underlying hu, hn], V2.mkrp fun j p hj => ?_⟩
      obtain ⟨i, rr, k, g1, g2, rfl⟩ := flat_get hlens hj
      have := hcell _ _ _ _ g1 g2
      rwa [Nat.add_assoc] at this
    · cases hp
  · cases hf

theorem ps_len {arr : Option Nat} (H : OpdR fp site w ρ g) (h : okP P (.len arr) xs o.op = true) (hp : pval (.len arr) (xs.map g) = some (c, r)) (hc : c) : PS P fp site w ρ o r := by
  cases hop : o.op <;> simp only [okP, hop, Bool.false_eq_true] at h
  rename_i cl
  simp only [Bool.and_eq_true] at h
  obtain ⟨hf, h⟩ := h
  split at hf
  · rename_i hcal
    split at hf
    · rename_i t ht
      split at hf
      · rename_i arr' e he
        simp only [decide_eq_true_eq] at hf
        subst hf
        have hat : cl.argTypes = #[t] := by cases hh : cl.argTypes with | mk l => simp only [hh] at ht; rw [ht]
        have key : ∀ y x, cl.args.toList = [y] → okX x y = true → xs = [x] → PS P fp site w ρ o r := by
          intro y x hy hx hxs
          subst hxs
          have hargs : cl.args = #[y] := by cases hh : cl.args with | mk l => simp only [hh] at hy; rw [hy]
          have H1 := H _ _ hx
          have hrun : ∀ _v : Value, (execOp ρ o).run P w = ((Builtin.len_ #[t] o.type #[ρ y]).run P w).andThen (fun v w => .ok (.value v) w) := by
            intro v
            simp [execOp, hop, resolve, invoke, builtin, hcal, hargs, hat]
          simp only [List.map, pval, pvLen] at hp
          split at hp
          · rename_i sz es e
            simp only [List.cons.injEq, and_true] at e
            rw [e] at H1
            split at hp
            · rename_i hn
              subst hn
              simp only [Option.some.injEq, Prod.mk.injEq] at hp
              obtain ⟨_, rfl⟩ := hp
              obtain ⟨A, cap, e1, _⟩ := H1.pv.slInv
              unfold arrOf at he
              split at he <;> simp at he
              rename_i hu
              exact ⟨.int .i64 es.length, by rw [hrun .nilIface, e1]; simp [Builtin.len_, run_underlying hu, goInt], V2.mkpv (.int _ _)⟩
            · cases hp
          · rename_i xx p n sz e
            simp only [List.cons.injEq, and_true] at e
            rw [e] at H1
            split at hp
            · rename_i hn
              subst hn
              simp only [Option.some.injEq, Prod.mk.injEq] at hp
              obtain ⟨_, rfl⟩ := hp
              obtain ⟨b, cap, _, e1, _⟩ := H1.sr
              unfold arrOf at he
              split at he <;> simp at he
              rename_i hu
              exact ⟨.int .i64 n, by rw [hrun .nilIface, e1]; simp [Builtin.len_, run_underlying hu, goInt], V2.mkpv (.int _ _)⟩
            · cases hp
          · split at hp
            · rename_i n
              simp only [Option.some.injEq, Prod.mk.injEq] at hp
              obtain ⟨_, rfl⟩ := hp
              unfold arrOf at he
              split at he <;> simp at he
              rename_i n' _ hu
              obtain ⟨rfl, rfl⟩ := he
              refine ⟨.int .i64 n', ?_, V2.mkpv (.int _ _)⟩
              rw [hrun .nilIface]
              cases ρ y <;> simp [Builtin.len_, run_underlying hu, goInt]
            · cases hp
          · cases hp
        cases hl : cl.args.toList with
        | nil =>
          rw [hl] at h
          have := okXs_nil h
          subst this
          simp [pval, pvLen] at hp
        | cons y ys =>
          rw [hl] at h
          obtain ⟨x, rest, rfl, g1, g2⟩ := okXs_cons h
          cases ys with
          | nil =>
            have := okXs_nil g2
            subst this
            exact key y x hl g1 rfl
          | cons y' ys' =>
            obtain ⟨x', rest', rfl, _, _⟩ := okXs_cons g2
            simp [pval, pvLen] at hp
      · cases hf
    · cases hf
  · cases hf

theorem ps_mm {isMax : Bool} (H : OpdR fp site w ρ g) (h : okP P (.mm isMax) xs o.op = true) (hp : pval (.mm isMax) (xs.map g) = some (c, r)) (hc : c) : PS P fp site w ρ o r := by
  cases hop : o.op <;> simp only [okP, hop, Bool.false_eq_true] at h
  rename_i cl
  simp only [Bool.and_eq_true] at h
  obtain ⟨hf, h⟩ := h
  cases hl : cl.args.toList with
  | nil => rw [hl] at h; have := okXs_nil h; subst this; simp [pval, pvMm] at hp
  | cons y ys =>
    rw [hl] at h
    obtain ⟨x, rest, rfl, g1, g2⟩ := okXs_cons h
    cases ys with
    | nil => have := okXs_nil g2; subst this; simp [pval, pvMm] at hp
    | cons y' ys' =>
      obtain ⟨x', rest', rfl, g3, g4⟩ := okXs_cons g2
      cases ys' with
      | cons y'' ys'' =>
        obtain ⟨x'', rest'', rfl, _, _⟩ := okXs_cons g4
        simp [pval, pvMm] at hp
      | nil =>
        have := okXs_nil g4
        subst this
        have hargs : cl.args = #[y, y'] := by cases hh : cl.args with | mk l => simp only [hh] at hl; rw [hl]
        have H1 := H _ _ g1
        have H2 := H _ _ g3
        simp only [List.map, pval, pvMm] at hp
        split at hp
        · rename_i k a k' b e
          simp only [List.cons.injEq, and_true] at e
          rw [e.1] at H1
          rw [e.2] at H2
          split at hp
          · simp only [Option.some.injEq, Prod.mk.injEq] at hp
            obtain ⟨_, rfl⟩ := hp
            split at hf
            · rename_i hcal
              subst hf
              exact ⟨.int k (if b > a then b else a), by simp [execOp, hop, resolve, invoke, builtin, hcal, hargs, Builtin.max_, Builtin.max2, H1.int, H2.int], V2.mkpv (.int _ _)⟩
            · rename_i hcal
              simp only [Bool.not_eq_true'] at hf
              subst hf
              exact ⟨.int k (if b < a then b else a), by simp [execOp, hop, resolve, invoke, builtin, hcal, hargs, Builtin.min_, Builtin.min2, H1.int, H2.int], V2.mkpv (.int _ _)⟩
            · cases hf
          · cases hp
        · cases hp

theorem ps_ext {i : Nat} (H : OpdR fp site w ρ g) (h : okP P (.ext i) xs o.op = true) (hp : pval (.ext i) (xs.map g) = some (c, r)) (hc : c) : PS P fp site w ρ o r := by
  cases hop : o.op <;> simp only [okP, hop, Bool.false_eq_true] at h
  simp only [Bool.and_eq_true, beq_iff_eq] at h
  obtain ⟨rfl, h⟩ := h
  obtain ⟨x, rfl, h1⟩ := okXs1 h
  have H1 := H _ _ h1
  simp only [List.map, pval, pvExt] at hp
  split at hp
  · rename_i l e
    simp only [List.cons.injEq, and_true] at e
    rw [e] at H1
    simp only [Option.map_eq_some_iff, Prod.mk.injEq] at hp
    obtain ⟨r', hr, _, rfl⟩ := hp
    obtain ⟨⟨vs, e1, h2, h3⟩, _⟩ := H1
    have hi : i < vs.size := by rw [h2]; exact (List.getElem?_eq_some_iff.1 hr).1
    have := h3 i r' vs[i] hr (Array.getElem?_eq_getElem hi)
    have e0 : at0 (none : Option (Nat × Nat)) = fun _ => none := by funext j; simp [at0]
    rw [e0] at this
    refine ⟨vs[i], by simp [execOp, hop, Instr.extract, e1, Array.getElem?_eq_getElem hi], ?_⟩
    cases r' <;> first | exact this | exact this.1.elim
  · cases hp

theorem ps_nilc (H : OpdR fp site w ρ g) (h : okP P .nilc xs o.op = true) (hp : pval .nilc (xs.map g) = some (c, r)) (hc : c) : PS P fp site w ρ o r := by
  cases hop : o.op <;> simp only [okP, hop, Bool.false_eq_true] at h
  obtain ⟨x, rfl, h1⟩ := okXs1 h
  have H1 := H _ _ h1
  simp only [List.map, pval, pvNilc] at hp
  split at hp
  · rename_i xx p e
    simp only [List.cons.injEq, and_true] at e
    rw [e] at H1
    simp only [Option.some.injEq, Prod.mk.injEq] at hp
    obtain ⟨_, rfl⟩ := hp
    obtain ⟨b, hs, e1⟩ := H1.ptr
    exact ⟨_, by simp [execOp, hop, e1], V2.mkptr hs⟩
  · rename_i l e
    simp only [List.cons.injEq, and_true] at e
    rw [e] at H1
    simp only [Option.some.injEq, Prod.mk.injEq] at hp
    obtain ⟨_, rfl⟩ := hp
    obtain ⟨b, oo, e1, hl⟩ := H1.rp
    exact ⟨_, by simp [execOp, hop, e1], V2.mkrp hl⟩
  · cases hp

theorem pSound {po : POp} (H : OpdR fp site w ρ g) (h : okP P po xs o.op = true) (hp : pval po (xs.map g) = some (c, r)) (hc : c) : PS P fp site w ρ o r := by
  cases po with
  | id => exact ps_id H h hp hc
  | pick => exact ps_pick H h hp hc
  | bin op => exact ps_bin H h hp hc
  | beq n => exact ps_beq H h hp hc
  | peq n => exact ps_peq H h hp hc
  | aeq neg n k => exact ps_aeq H h hp hc
  | seq neg ks => exact ps_seq H h hp hc
  | sidx => exact ps_sidx H h hp hc
  | sb op => exact ps_sb H h hp hc
  | slen => exact ps_slen H h hp hc
  | un op => exact ps_un H h hp hc
  | conv k => exact ps_conv H h hp hc
  | field off n => exact ps_field H h hp hc
  | index l s n => exact ps_index H h hp hc
  | fieldAddr off => exact ps_fieldAddr H h hp hc
  | indexAddr a s => exact ps_indexAddr H h hp hc
  | slice a s lo hi => exact ps_slice H h hp hc
  | s2ap n => exact ps_s2ap H h hp hc
  | len a => exact ps_len H h hp hc
  | mm m => exact ps_mm H h hp hc
  | ext i => exact ps_ext H h hp hc
  | nilc => exact ps_nilc H h hp hc
end
end Go.Abs
end

section
/- What the abstract machine's memory operations do to what is known: new variables, stores, appends. No condition. -/
namespace Go.Abs
open Go.RowKit

section
variable {fp : Nat → Nat → Prop} {site : Nat → Option Nat} {w : World} {v : Value}

theorem cell_of_heap {g : Nat} {cs : Array Value} {e : TypeId} {fr : Nat × Nat} (h : w.heap[g]? = some (.cells cs e fr)) (j : Nat) : w.cell? ⟨g, j, none⟩ = cs[j]? := by
  simp [World.cell?, h]
theorem cell_of_pre {g : Nat} {cs rest : Array Value} {e : TypeId} {fr : Nat × Nat} (h : w.heap[g]? = some (.cells (cs ++ rest) e fr)) {j : Nat} {u : Value} (hu : cs[j]? = some u) : w.cell? ⟨g, j, none⟩ = some u := by
  rw [cell_of_heap h, Array.getElem?_append_left (Array.getElem?_eq_some_iff.1 hu).1]
  exact hu
theorem ownsRow_form {e sz n : Nat} {xs : List Value} (h : w.ownsRow 0 e sz v n xs) {g n' c : Nat} (hv : v = .slice (some ⟨g, 0, none⟩) n' c) :
    n' = n ∧ n ≤ c ∧ c ≤ maxLen ∧ ∀ (j : Nat) u, xs[j]? = some u → w.cell? ⟨g, j, none⟩ = some u := by
  rcases h.2 with ⟨h1, _⟩ | ⟨g', cap, cur, h1, _, h2, h3, h4, _, h5⟩
  · rw [h1] at hv; cases hv
  · rw [h1] at hv
    cases hv
    refine ⟨rfl, h3, h4, fun j u hu => ?_⟩
    rw [cell_of_heap h2]
    rw [← h5, List.getElem?_take] at hu
    split at hu
    · simpa using hu
    · cases hu

theorem VR0.dem {a : AV} {ow : Option (Nat × Nat)} (h : VR0 fp site w v a ow) (hf : ∀ g e, ow = some (g, e) → ∀ o, o < e → fp g o) : VR0 fp site w v a.dem0 none := by
  cases a with
  | os e sz es =>
    obtain ⟨xs, h1, h2, h3, h4, h5⟩ := h
    rcases h5 with ⟨rfl, rfl⟩ | ⟨g, n, c, rfl, rfl⟩
    · exact VR0.dem0n ⟨xs, h1, h2, h3, h4, Or.inl ⟨rfl, rfl⟩⟩
    · obtain ⟨rfl, g1, g2, g3⟩ := ownsRow_form h1 rfl
      refine ⟨PR.mksl g1 g2 h3 fun i r j p hi hj => ?_, rfl⟩
      have hfl := flat_at h3 hi hj
      obtain ⟨u, hu, hp⟩ := h2.get hfl
      have hlt := (List.getElem?_eq_some_iff.1 hfl).1
      rw [flat_len h3] at hlt
      rw [Nat.zero_add]
      exact ⟨hf g _ rfl _ hlt, u, g3 _ u hu, hp⟩
  | undef => exact rfl
  | none => exact ⟨h.1, rfl⟩
  | pv p => exact ⟨h.1, rfl⟩
  | ptr x o => exact ⟨h.1, rfl⟩
  | rp l => exact ⟨h.1, rfl⟩
  | sr x o n sz => exact ⟨h.1, rfl⟩
  | fn f => exact ⟨h.1, rfl⟩
  | e0 => exact ⟨h.1, rfl⟩
  | mp x => exact ⟨h.1, rfl⟩
  | mc ag ks es => exact h.elim
  | pagg l => exact h.elim
  | agg l => exact h.elim
  | tup l => exact h.elim

theorem VR1.dem {a : AV} {ow : Nat → Option (Nat × Nat)} (h : VR1 fp site w v a ow) (hf : ∀ j g e, ow j = some (g, e) → ∀ o, o < e → fp g o) : VR1 fp site w v a.dem1 (fun _ => none) := by
  cases a
  case pagg l => exact ⟨h.1, fun _ => rfl⟩
  case agg l =>
    obtain ⟨⟨cs, h1, h2, h3⟩, h4⟩ := h
    refine ⟨⟨cs, h1, by simp [h2], fun j c u hc hu => ?_⟩, fun _ _ => rfl⟩
    rw [List.getElem?_map, Option.map_eq_some_iff] at hc
    obtain ⟨c', hc, rfl⟩ := hc
    exact (h3 j c' u hc hu).dem (hf j)
  case os e sz es => exact ⟨VR0.dem (a := .os e sz es) h.1 (hf 0), fun _ _ => rfl⟩
  case undef => exact ⟨VR0.dem (a := .undef) h.1 (hf 0), fun _ _ => rfl⟩
  case none => exact ⟨VR0.dem (a := .none) h.1 (hf 0), fun _ _ => rfl⟩
  case pv p => exact ⟨VR0.dem (a := .pv p) h.1 (hf 0), fun _ _ => rfl⟩
  case ptr x o => exact ⟨VR0.dem (a := .ptr x o) h.1 (hf 0), fun _ _ => rfl⟩
  case rp l => exact ⟨VR0.dem (a := .rp l) h.1 (hf 0), fun _ _ => rfl⟩
  case sr x o n sz => exact ⟨VR0.dem (a := .sr x o n sz) h.1 (hf 0), fun _ _ => rfl⟩
  case fn f => exact ⟨VR0.dem (a := .fn f) h.1 (hf 0), fun _ _ => rfl⟩
  case e0 => exact ⟨VR0.dem (a := .e0) h.1 (hf 0), fun _ _ => rfl⟩
  case mp x => exact ⟨VR0.dem (a := .mp x) h.1 (hf 0), fun _ _ => rfl⟩
  case mc ag ks es => exact h.1.elim
  case tup l => exact h.1.elim

theorem dem1_tup {a : AV} {l : List AV} (h : a.dem1 = .tup l) : a = .tup l := by
  cases a <;> first | exact h | cases h

theorem VR2.dem {a : AV} {ow : Nat → Option (Nat × Nat)} (h : VR2 fp site w v a ow) (hf : ∀ j g e, ow j = some (g, e) → ∀ o, o < e → fp g o) : V2 fp site w v a.dem2 := by
  by_cases ht : ∃ l, a = .tup l
  · obtain ⟨l, rfl⟩ := ht
    obtain ⟨⟨vs, h1, h2, h3⟩, h4⟩ := h
    refine ⟨⟨vs, h1, by simp [h2], fun j c u hc hu => ?_⟩, fun _ _ => rfl⟩
    rw [List.getElem?_map, Option.map_eq_some_iff] at hc
    obtain ⟨c', hc, rfl⟩ := hc
    have e0 : at0 (none : Option (Nat × Nat)) = fun _ => none := by funext j; simp [at0]
    rw [e0]
    refine (h3 j c' u hc hu).dem fun i g e he => ?_
    unfold at0 at he
    split at he
    · exact hf j g e he
    · cases he
  · have hn : ∀ l, a ≠ .tup l := fun l hl => ht ⟨l, hl⟩
    rw [VR2_eq hn] at h
    have e : a.dem2 = a.dem1 := by cases a <;> first | rfl | exact absurd rfl (hn _)
    rw [e]
    unfold V2
    rw [VR2_eq (fun l hl => hn l (dem1_tup hl))]
    exact h.dem hf
end

section
variable {X : Ctx} {G : Gh} {s : S} {a : Act} {w : World}

theorem Rel.ownfp (h : Rel X G s a w) {k : Key} {j g e : Nat} (ho : G.own k j = some (g, e)) {o : Nat} (hlt : o < e) : fp X G g o := by
  obtain ⟨_, h2⟩ := h.ownF k j g e ho
  refine ⟨?_, fun x => h.ownS k j g e x ho, fun k' j' e' ho' => ?_⟩
  · rcases h2 with h2 | h2
    · exact Or.inr (Or.inl h2)
    · exact Or.inr (Or.inr h2)
  · obtain ⟨rfl, rfl⟩ := h.ownI _ _ _ _ _ _ _ ho ho'
    rw [ho] at ho'
    cases ho'
    exact hlt

/-- The operands, copied. -/
theorem Rel.opd (h : Rel X G s a w) : OpdR (fp X G) G.site w a.eval (fun x => (ev s x).dem2) := by
  intro x y hx
  cases x with
  | t n =>
    cases y <;> simp only [okX, Bool.false_eq_true] at hx
    rename_i m
    simp only [beq_iff_eq] at hx
    subst hx
    exact (h.tmp n).dem fun j g e he o ho => h.ownfp he ho
  | c cv =>
    have key : V2 (fp X G) G.site w (a.eval y) cv → V2 (fp X G) G.site w (a.eval y) cv.dem2 := fun hv => VR2.dem hv (fun _ _ _ he => by cases he)
    unfold okX at hx
    split at hx
    · rename_i hcv; cases hcv
    · rename_i f g hcv
      cases hcv
      simp only [beq_iff_eq] at hx
      subst hx
      exact key ⟨⟨rfl, rfl⟩, fun _ _ => rfl⟩
    · rename_i cv' u hcv
      cases hcv
      exact key (okC_sound hx)
    · cases hx

/-- The operands of what only computes. -/
theorem Rel.opdp (h : Rel X G s a w) : OpdR (fp X G) G.site w a.eval (evd s) := by
  intro x y hx
  cases x with
  | t n => exact h.opd _ _ hx
  | c cv =>
    unfold okX at hx
    split at hx
    · rename_i hcv; cases hcv
    · rename_i f g hcv
      cases hcv
      simp only [beq_iff_eq] at hx
      subst hx
      exact ⟨⟨rfl, rfl⟩, fun _ _ => rfl⟩
    · rename_i cv' u hcv
      cases hcv
      exact okC_sound hx
    · cases hx

/-- A new block, that nobody owns or knows yet. -/
theorem cell_alloc {b o : Nat} {v : Value} {ob : Obj} (h : w.cell? ⟨b, o, none⟩ = some v) : (w.alloc ob).cell? ⟨b, o, none⟩ = some v ∧ b < w.heap.size := by
  have hb : b < w.heap.size := by
    by_cases hb : b < w.heap.size
    · exact hb
    · simp only [World.cell?, Array.getElem?_eq_none (Nat.le_of_not_lt hb)] at h; simp at h
  refine ⟨?_, hb⟩
  rw [← h]
  exact World.cell?_of_block (Below.heap_alloc w ob b hb)

theorem Frame.alloc (h : Frame X w) (ob : Obj) (hok : ∀ b o, X.ok b o → b < X.w0.heap.size) : Frame X (w.alloc ob) := by
  refine ⟨h.os, h.tape, h.output, Nat.le_trans h.size (by simp), fun b hb hl => ?_, fun b o ho => ?_⟩
  · exact (Below.heap_alloc w ob b (Nat.lt_of_lt_of_le hb h.size)).trans (h.block b hb hl)
  · have hb := Nat.lt_of_lt_of_le (hok b o ho) h.size
    exact (World.cell?_of_block (a := ⟨b, o, none⟩) (Below.heap_alloc w ob b hb)).trans (h.cell b o ho)

/-- A new block: what was known stays known. New sites and new owners may lie in it. -/
theorem Rel.newBlock (h : Rel X G s a w) (ob : Obj) {G' : Gh} {s' : S} {a' : Act}
    (hs1 : ∀ x b, G.site x = some b → G'.site x = some b) (hs2 : ∀ x b, G'.site x = some b → G.site x = some b ∨ b = w.heap.size)
    (ho1 : ∀ k j b e, G'.own k j = some (b, e) → G.own k j = some (b, e) ∨ b = w.heap.size)
    (hI1 : ∀ x y, G'.site x = some w.heap.size → G'.site y = some w.heap.size → x = y)
    (hI2 : ∀ k j k' j' e e', G'.own k j = some (w.heap.size, e) → G'.own k' j' = some (w.heap.size, e') → k = k' ∧ j = j')
    (hI3 : ∀ k j e x, G'.own k j = some (w.heap.size, e) → G'.site x ≠ some w.heap.size)
    (ht : (∀ b o v, fp X G b o → w.cell? ⟨b, o, none⟩ = some v → fp X G' b o ∧ (w.alloc ob).cell? ⟨b, o, none⟩ = some v) → ∀ t, VR2 (fp X G') G'.site (w.alloc ob) (a'.tmps.getD t Go.undef) (s' (.t t)) (G'.own (.t t)))
    (hm : (∀ b o v, fp X G b o → w.cell? ⟨b, o, none⟩ = some v → fp X G' b o ∧ (w.alloc ob).cell? ⟨b, o, none⟩ = some v) → ∀ x, MR (fp X G') G'.site (w.alloc ob) (s' (.m x)) (G'.site x) (G'.own (.m x)))
    (hd : a'.defers = X.ds) : Rel X G' s' a' (w.alloc ob) := by
  have hsz : X.w0.heap.size ≤ w.heap.size := h.fr.size
  have hsafe : ∀ b o, b < w.heap.size → G.safe b o → G'.safe b o := fun b o hb hs => ⟨fun x hx => by
      rcases hs2 x b hx with h1 | h1
      · exact hs.1 x h1
      · omega, fun k j e he => by
      rcases ho1 k j b e he with h1 | h1
      · exact hs.2 k j e h1
      · omega⟩
  have hfp : ∀ b o v, fp X G b o → w.cell? ⟨b, o, none⟩ = some v → fp X G' b o ∧ (w.alloc ob).cell? ⟨b, o, none⟩ = some v := fun b o v hf hc => by
    obtain ⟨h1, h2⟩ := cell_alloc (ob := ob) hc
    exact ⟨⟨hf.1, hsafe b o h2 hf.2⟩, h1⟩
  refine ⟨ht hfp, hm hfp, fun k j k' j' b e e' h1 h2 => ?_, fun k j b e x h1 h2 => ?_, fun x y b h1 h2 => ?_, fun x b h1 => ?_, fun k j b e h1 => ?_, fun b o ho => hsafe b o (Nat.lt_of_lt_of_le (h.okB b o ho) hsz) (h.okS b o ho), h.okB, h.fr.alloc ob h.okB, hd⟩
  · rcases ho1 k j b e h1 with g1 | g1
    · rcases ho1 k' j' b e' h2 with g2 | g2
      · exact h.ownI _ _ _ _ _ _ _ g1 g2
      · subst g2
        have := (h.ownF k j _ e g1).1
        omega
    · subst g1
      exact hI2 _ _ _ _ _ _ h1 h2
  · rcases ho1 k j b e h1 with g1 | g1
    · rcases hs2 x b h2 with g2 | g2
      · exact h.ownS _ _ _ _ _ g1 g2
      · subst g2
        have := (h.ownF k j _ e g1).1
        omega
    · subst g1
      exact hI3 _ _ _ _ h1 h2
  · rcases hs2 x b h1 with g1 | g1
    · rcases hs2 y b h2 with g2 | g2
      · exact h.siteI _ _ _ g1 g2
      · subst g2
        have := (h.siteF x _ g1).1
        omega
    · subst g1
      exact hI1 _ _ h1 h2
  · rcases hs2 x b h1 with g1 | g1
    · obtain ⟨q1, q2⟩ := h.siteF x b g1
      exact ⟨by simp; omega, q2⟩
    · subst g1
      exact ⟨by simp, Or.inl hsz⟩
  · rcases ho1 k j b e h1 with g1 | g1
    · obtain ⟨q1, q2⟩ := h.ownF k j b e g1
      exact ⟨by simp; omega, q2⟩
    · subst g1
      exact ⟨by simp, Or.inl hsz⟩

theorem own_heap (h : Rel X G s a w) (ob : Obj) {k : Key} {j g e : Nat} (ho : G.own k j = some (g, e)) : (w.alloc ob).heap[g]? = w.heap[g]? :=
  Below.heap_alloc w ob g (h.ownF k j g e ho).1

/-- A new variable. -/
theorem Rel.newSiteR (h : Rel X G s a w) {d : Nat} (hd : d < a.tmps.size) (hfree : G.site d = none) (hmd : s (.m d) = .undef) {cs rest : Array Value} {e : TypeId} {c : AV} (hc : V2 (fp X G) G.site w (.agg cs) c) (hagg : c.isAgg) :
    ∃ G', Rel X G' ((s.up (.m d) c).up (.t d) (.ptr d 0)) (a.put (some d) (.pointer (some ⟨w.heap.size, 0, none⟩))) (w.alloc (.cells (cs ++ rest) e)) ∧ ∀ x, x ≠ d → G'.site x = G.site x := by
  refine ⟨⟨fun x => if x = d then some w.heap.size else G.site x, clr G.own (.t d)⟩, ?_, fun x hx => by simp [hx]⟩
  refine h.newBlock _ (fun x b hb => ?_) (fun x b hb => ?_) (fun k j b e' hb => ?_) (fun x y h1 h2 => ?_) (fun k j k' j' e' e'' h1 h2 => ?_) (fun k j e' x h1 => ?_) (fun hfp t => ?_) (fun hfp x => ?_) ((put_defers _ _ _).trans h.df)
  · have : x ≠ d := by rintro rfl; rw [hfree] at hb; cases hb
    simp [this, hb]
  · simp only at hb
    split at hb
    · cases hb; exact Or.inr rfl
    · exact Or.inl hb
  · simp only [clr] at hb
    split at hb
    · cases hb
    · exact Or.inl hb
  · simp only at h1 h2
    have key : ∀ z, (if z = d then some w.heap.size else G.site z) = some w.heap.size → z = d := fun z hz => by
      by_cases hzd : z = d
      · exact hzd
      · rw [if_neg hzd] at hz
        have := (h.siteF z _ hz).1
        omega
    rw [key x h1, key y h2]
  · simp only [clr] at h1
    split at h1
    · cases h1
    · have := (h.ownF _ _ _ _ h1).1
      omega
  · simp only [clr] at h1
    split at h1
    · cases h1
    · have := (h.ownF _ _ _ _ h1).1
      omega
  · have hs : ∀ x b, G.site x = some b → (fun x => if x = d then some w.heap.size else G.site x) x = some b := fun x b hb => by
      have : x ≠ d := by rintro rfl; rw [hfree] at hb; cases hb
      simp [this, hb]
    by_cases ht : t = d
    · subst ht
      rw [getD_put_same hd, S.up_same]
      exact ⟨⟨⟨w.heap.size, by simp, rfl⟩, by simp [clr]⟩, fun _ _ => by simp [clr]⟩
    · rw [getD_put_other ht, S.up_other _ _ (by simp [ht]), S.up_other _ _ (by simp)]
      have e1 : clr G.own (.t d) (.t t) = G.own (.t t) := by funext j; simp [clr, ht]
      simp only [e1]
      exact (h.tmp t).mono hfp hs fun j g e' he => own_heap h _ he
  · have hs : ∀ x b, G.site x = some b → (fun x => if x = d then some w.heap.size else G.site x) x = some b := fun x b hb => by
      have : x ≠ d := by rintro rfl; rw [hfree] at hb; cases hb
      simp [this, hb]
    rw [S.up_other _ _ (by simp)]
    have e1 : clr G.own (.t d) (.m x) = G.own (.m x) := by funext j; simp [clr]
    simp only [e1]
    by_cases hx : x = d
    · subst hx
      rw [S.up_same]
      have hown : G.own (.m x) = fun _ => none := by
        have := h.mem x
        rw [hmd] at this
        funext j
        exact this j
      rw [hown]
      have hv1 : VR1 (fp X ⟨fun y => if y = x then some w.heap.size else G.site y, clr G.own (.t x)⟩) (fun y => if y = x then some w.heap.size else G.site y) (w.alloc (.cells (cs ++ rest) e)) (.agg cs) c (fun _ => none) := by
        have hc' : VR1 (fp X G) G.site w (.agg cs) c (fun _ => none) := by cases c <;> first | exact hc | exact hagg.elim
        exact hc'.mono hfp hs fun j g e' he => by cases he
      cases c <;> first | exact hagg.elim | exact ⟨w.heap.size, cs, rest, e, by simp, heap_alloc_new w _, hv1, trivial⟩
    · rw [S.up_other _ _ (by simp [hx])]
      refine (h.mem x).mono hfp hs (fun b hb => ⟨by simp [hx, hb], Below.heap_alloc w _ b (h.siteF x b hb).1⟩) fun j g e' he => own_heap h _ he

theorem Rel.newSite (h : Rel X G s a w) {d : Nat} (hd : d < a.tmps.size) (hfree : G.site d = none) (hmd : s (.m d) = .undef) {cs : Array Value} {e : TypeId} {c : AV} (hc : V2 (fp X G) G.site w (.agg cs) c) (hagg : c.isAgg) :
    ∃ G', Rel X G' ((s.up (.m d) c).up (.t d) (.ptr d 0)) (a.put (some d) (.pointer (some ⟨w.heap.size, 0, none⟩))) (w.alloc (.cells cs e)) ∧ ∀ x, x ≠ d → G'.site x = G.site x := by
  have := h.newSiteR (rest := #[]) (e := e) hd hfree hmd hc hagg
  rwa [Array.append_empty] at this

/-- A new block that a slot owns. -/
theorem Rel.newOwn (h : Rel X G s a w) {d : Nat} (hd : d < a.tmps.size) {cs : Array Value} {e sz : Nat} {es : List (List PV)} (hc : PRs (fp X G) w cs.toList es.flatten) (hl : ∀ r ∈ es, r.length = sz) (hsz : 0 < sz) (hm : es.length ≤ maxLen) :
    ∃ G', Rel X G' (s.up (.t d) (.os e sz es)) (a.put (some d) (.slice (some ⟨w.heap.size, 0, none⟩) es.length es.length)) (w.alloc (.cells cs e)) ∧ ∀ x, G'.site x = G.site x := by
  have hcs : cs.size = es.length * sz := by
    have := hc.1
    rw [flat_len hl] at this
    simpa using this
  refine ⟨⟨G.site, fun k j => if k = .t d then (if j = 0 then some (w.heap.size, es.length * sz) else none) else G.own k j⟩, ?_, fun _ => rfl⟩
  refine h.newBlock _ (fun x b hb => hb) (fun x b hb => Or.inl hb) (fun k j b e' hb => ?_) (fun x y h1 h2 => ?_) (fun k j k' j' e' e'' h1 h2 => ?_) (fun k j e' x h1 hx => ?_) (fun hfp t => ?_) (fun hfp x => ?_) ((put_defers _ _ _).trans h.df)
  · simp only at hb
    split at hb
    · split at hb
      · cases hb; exact Or.inr rfl
      · cases hb
    · exact Or.inl hb
  · have := (h.siteF x _ h1).1
    omega
  · have key : ∀ k j e', (if k = Key.t d then (if j = 0 then some (w.heap.size, es.length * sz) else none) else G.own k j) = some (w.heap.size, e') → k = .t d ∧ j = 0 := fun k j e' hk => by
      split at hk
      · split at hk
        · exact ⟨by assumption, by assumption⟩
        · cases hk
      · have := (h.ownF _ _ _ _ hk).1
        omega
    obtain ⟨rfl, rfl⟩ := key _ _ _ h1
    obtain ⟨rfl, rfl⟩ := key _ _ _ h2
    exact ⟨rfl, rfl⟩
  · have := (h.siteF x _ hx).1
    omega
  · by_cases ht : t = d
    · subst ht
      rw [getD_put_same hd, S.up_same]
      refine ⟨⟨cs.toList, ⟨by simp [hcs], Or.inr ⟨w.heap.size, es.length, cs, rfl, Nat.zero_le _, heap_alloc_new w _, Nat.le_refl _, hm, hcs, by rw [← hcs, ← Array.length_toList, List.take_length]⟩⟩, hc.mono hfp, hl, hsz, Or.inr ⟨_, _, _, rfl, by simp⟩⟩, fun j hj => ?_⟩
      simp [show j ≠ 0 by omega]
    · rw [getD_put_other ht, S.up_other _ _ (by simp [ht])]
      have e1 : (fun j => if Key.t t = Key.t d then (if j = 0 then some (w.heap.size, es.length * sz) else none) else G.own (.t t) j) = G.own (.t t) := by funext j; simp [ht]
      simp only [e1]
      exact (h.tmp t).mono hfp (fun _ _ h => h) fun j g e' he => own_heap h _ he
  · rw [S.up_other _ _ (by simp)]
    have e1 : (fun j => if Key.m x = Key.t d then (if j = 0 then some (w.heap.size, es.length * sz) else none) else G.own (.m x) j) = G.own (.m x) := by funext j; simp
    simp only [e1]
    exact (h.mem x).mono hfp (fun _ _ h => h) (fun b hb => ⟨hb, Below.heap_alloc w _ b (h.siteF x b hb).1⟩) fun j g e' he => own_heap h _ he
end
end Go.Abs
end

section
/- What the abstract machine's memory operations do to what is known: moves, stores into variables, appends. No condition. -/
namespace Go.Abs
open Go.RowKit

section
variable {X : Ctx} {G : Gh} {s : S} {a : Act} {w : World}

def mvOwn (own : Key → Nat → Option (Nat × Nat)) (n d : Key) : Key → Nat → Option (Nat × Nat) := fun k j => if k = d then own n j else if k = n then none else own k j

/-- A slot's value moves to another slot. -/
theorem Rel.move (h : Rel X G s a w) {n d : Nat} (hd : d < a.tmps.size) (hn : n ≠ d) :
    ∃ G', Rel X G' ((s.up (.t n) (s (.t n)).dem2).up (.t d) (s (.t n))) (a.put (some d) (a.tmps.getD n Go.undef)) w ∧ ∀ x, G'.site x = G.site x := by
  refine ⟨{ G with own := mvOwn G.own (.t n) (.t d) }, h.same _ (fun k j be hb => ?_) (fun k j k' j' b e e' h1 h2 => ?_) (fun t => ?_) (fun x => ?_) ((put_defers _ _ _).trans h.df), fun _ => rfl⟩
  · unfold mvOwn at hb
    split at hb
    · exact ⟨_, _, hb⟩
    · split at hb
      · cases hb
      · exact ⟨_, _, hb⟩
  · unfold mvOwn at h1 h2
    split at h1 <;> split at h2
    · rename_i q1 q2
      obtain ⟨_, e⟩ := h.ownI _ _ _ _ _ _ _ h1 h2
      exact ⟨q1.trans q2.symm, e⟩
    · split at h2
      · cases h2
      · rename_i q1 q2 q3
        obtain ⟨e, _⟩ := h.ownI _ _ _ _ _ _ _ h1 h2
        exact absurd e.symm q3
    · split at h1
      · cases h1
      · rename_i q1 q2 q3
        obtain ⟨e, _⟩ := h.ownI _ _ _ _ _ _ _ h1 h2
        exact absurd e q3
    · split at h1
      · cases h1
      · split at h2
        · cases h2
        · exact h.ownI _ _ _ _ _ _ _ h1 h2
  · by_cases ht : t = d
    · subst ht
      rw [getD_put_same hd, S.up_same]
      have e1 : mvOwn G.own (.t n) (.t t) (.t t) = G.own (.t n) := by funext j; simp [mvOwn]
      rw [e1]
      exact h.tmp n
    · rw [getD_put_other ht, S.up_other _ _ (by simp [ht])]
      by_cases htn : t = n
      · subst htn
        rw [S.up_same]
        have e1 : mvOwn G.own (.t t) (.t d) (.t t) = fun _ => none := by funext j; simp [mvOwn, ht]
        rw [e1]
        exact (h.tmp t).dem fun j g e he o ho => h.ownfp he ho
      · rw [S.up_other _ _ (by simp [htn])]
        have e1 : mvOwn G.own (.t n) (.t d) (.t t) = G.own (.t t) := by funext j; simp [mvOwn, ht, htn]
        rw [e1]
        exact h.tmp t
  · rw [S.up_other _ _ (by simp), S.up_other _ _ (by simp)]
    have e1 : mvOwn G.own (.t n) (.t d) (.m x) = G.own (.m x) := by funext j; simp [mvOwn]
    rw [e1]
    exact h.mem x

theorem Rel.drew (h : Rel X G s a w) : Rel X G s a w.drew :=
  ⟨fun t => VR2.mono (w := w) (w' := w.drew) (fp' := fp X G) (site' := G.site) (fun _ _ _ hf hc => ⟨hf, hc⟩) (fun _ _ h => h) (fun _ _ _ _ => rfl) (h.tmp t), fun x => MR.mono (w := w) (w' := w.drew) (fp' := fp X G) (site' := G.site) (fun _ _ _ hf hc => ⟨hf, hc⟩) (fun _ _ h => h) (fun b hb => ⟨hb, rfl⟩) (fun _ _ _ _ => rfl) (h.mem x),
    h.ownI, h.ownS, h.siteI, h.siteF, h.ownF, h.okS, h.okB, ⟨h.fr.os, h.fr.tape, h.fr.output, h.fr.size, h.fr.block, h.fr.cell⟩, h.df⟩

theorem Rel.siteSafe (h : Rel X G s a w) {b o y : Nat} (hs : G.safe b o) : G.site y ≠ some b := hs.1 y

/-- A variable's cells turn; what is owned may have moved. -/
theorem Rel.setSite (h : Rel X G s a w) {y b : Nat} (hy : G.site y = some b) {cs cs' rest : Array Value} {e : TypeId} (hb : w.heap[b]? = some (.cells (cs ++ rest) e (0, 0)))
    (own' : Key → Nat → Option (Nat × Nat)) {s' : S} {a' : Act}
    (h1 : ∀ k j be, own' k j = some be → ∃ k0 j0, G.own k0 j0 = some be)
    (h2 : ∀ k j k' j' b e e', own' k j = some (b, e) → own' k' j' = some (b, e') → k = k' ∧ j = j')
    (ht : ∀ t, VR2 (fp X G) G.site w (a'.tmps.getD t Go.undef) (s' (.t t)) (own' (.t t)))
    (hm : ∀ x, x ≠ y → MR (fp X G) G.site w (s' (.m x)) (G.site x) (own' (.m x)))
    (hc : VR1 (fp X G) G.site w (.agg cs') (s' (.m y)) (own' (.m y))) (hagg : (s' (.m y)).isAgg)
    (hd : a'.defers = X.ds) : Rel X { G with own := own' } s' a' (w.setRow b (cs' ++ rest)) := by
  obtain ⟨hblt, hbF⟩ := h.siteF y b hy
  have hsafe : ∀ b o, G.safe b o → Gh.safe { G with own := own' } b o := fun b o hs => ⟨hs.1, fun k j e he => by
    obtain ⟨k0, j0, h0⟩ := h1 k j _ he
    exact hs.2 k0 j0 e h0⟩
  have hoth : ∀ b', b' ≠ b → (w.setRow b (cs' ++ rest)).heap[b']? = w.heap[b']? := fun b' hne => setRow_other w b b' (cs' ++ rest) hne
  have hfp : ∀ b' o v, fp X G b' o → w.cell? ⟨b', o, none⟩ = some v → fp X { G with own := own' } b' o ∧ (w.setRow b (cs' ++ rest)).cell? ⟨b', o, none⟩ = some v := fun b' o v hf hc => by
    have hne : b' ≠ b := by rintro rfl; exact hf.2.1 y hy
    exact ⟨⟨hf.1, hsafe b' o hf.2⟩, (World.cell?_of_block (a := ⟨b', o, none⟩) (hoth b' hne)).trans hc⟩
  have hsize : (w.setRow b (cs' ++ rest)).heap.size = w.heap.size := by simp [World.setRow]
  have hown : ∀ k j g e, own' k j = some (g, e) → (w.setRow b (cs' ++ rest)).heap[g]? = w.heap[g]? := fun k j g e he => by
    obtain ⟨k0, j0, h0⟩ := h1 k j _ he
    exact hoth g (by rintro rfl; exact h.ownS _ _ _ _ y h0 hy)
  refine ⟨fun t => (ht t).mono hfp (fun _ _ h => h) (hown (.t t)), fun x => ?_, h2, fun k j b e x he => ?_, h.siteI, fun x b' hx => ?_, fun k j b e he => ?_, fun b o ho => hsafe b o (h.okS b o ho), h.okB, ?_, hd⟩
  · by_cases hx : x = y
    · subst hx
      have hc' := hc.mono hfp (fun _ _ h => h) (hown (.m x))
      generalize s' (.m x) = c at hc' hagg
      cases c <;> first | exact hagg.elim | exact ⟨b, cs', rest, e, hy, setRow_heap w b (cs ++ rest) (cs' ++ rest) e _ hb, hc', trivial⟩
    · refine (hm x hx).mono hfp (fun _ _ h => h) (fun b' hb' => ⟨hb', hoth b' ?_⟩) (hown (.m x))
      rintro rfl
      exact hx (h.siteI _ _ _ hb' hy)
  · obtain ⟨k0, j0, h0⟩ := h1 k j _ he
    exact h.ownS k0 j0 b e x h0
  · obtain ⟨q1, q2⟩ := h.siteF x b' hx
    exact ⟨by rw [hsize]; exact q1, q2⟩
  · obtain ⟨k0, j0, h0⟩ := h1 k j _ he
    obtain ⟨q1, q2⟩ := h.ownF k0 j0 b e h0
    exact ⟨by rw [hsize]; exact q1, q2⟩
  · refine ⟨h.fr.os, h.fr.tape, h.fr.output, by rw [hsize]; exact h.fr.size, fun b' hb' hl => ?_, fun b' o ho => ?_⟩
    · have hne : b' ≠ b := by
        rintro rfl
        rcases hbF with q | q
        · omega
        · exact hl q.1
      exact (hoth b' hne).trans (h.fr.block b' hb' hl)
    · have hne : b' ≠ b := by rintro rfl; exact (h.okS b' o ho).1 y hy
      exact (World.cell?_of_block (a := ⟨b', o, none⟩) (hoth b' hne)).trans (h.fr.cell b' o ho)

/-- append(v, ..) of what lies at A, v being empty without room: how the world turns. -/
theorem run_app0 {P : Program} {t ty e : TypeId} {i : TypeInfo} {z : Value} {size bytes : Nat} (ht : P.underlying t = some (.slice e)) (hi : P.info? e = some i) (hz : i.zero = some z)
    (hsize : i.size = size) (hby : i.bytes = bytes) {B : Option Addr} {ad : Addr} {m c : Nat} {news : List Value} (hl : news.length = m * size) (hnews : ∀ (j : Nat) u, news[j]? = some u → w.cell? (ad.add j) = some u)
    (hm : 0 < m) (h63 : m ≤ maxLen) (hbytes : m * bytes ≤ 140737488355328) :
    ∃ cap rest, m ≤ cap ∧ cap ≤ maxLen ∧ (Builtin.append_ #[t, t] ty #[.slice B 0 0, .slice (some ad) m c]).run P w = .ok (.slice (some ⟨w.heap.size, 0, none⟩) m cap) (w.drew.alloc (.cells (news.toArray ++ rest) e)) := by
  subst hsize
  subst hby
  have hsmall : m ≤ 9223372036854775807 := by simp only [maxLen] at h63; omega
  refine ⟨grownCap w m 0 e, Builtin.zeroCells z.cells (grownCap w m 0 e - m), grownCap_ge w m 0 e, grownCap_le_maxLen w m 0 e h63, ?_⟩
  cases B with
  | none => exact run_append_nil (P := P) w t ty e i z ht hi hz ad m c news hl hnews hm (by omega) (by omega)
  | some b =>
    have hr := run_append_grow (P := P) w t ty e i z ht hi hz b 0 0 [] (by simp) (by simp) ad m c news hl hnews (by omega) (by omega) (growslice_fits (by omega) (by rw [Nat.zero_add]; exact hbytes))
    simp only [Nat.zero_add] at hr
    rw [show (([] : List Value).toArray ++ news.toArray) = news.toArray by simp] at hr
    exact hr

/-- append(v, ..) of what lies at A: how the world turns. -/
theorem run_app {P : Program} {t ty e : TypeId} {i : TypeInfo} {z : Value} {size bytes : Nat} (ht : P.underlying t = some (.slice e)) (hi : P.info? e = some i) (hz : i.zero = some z)
    (hsize : i.size = size) (hby : i.bytes = bytes) (hzs : z.cells.size = size) (hsz : 0 < size)
    {v : Value} {n : Nat} {xs : List Value} (hown : w.ownsRow 0 e size v n xs)
    {A : Option Addr} {m c : Nat} {news : List Value} (hl : news.length = m * size) (hnews : 0 < m → ∃ ad, A = some ad ∧ ∀ (j : Nat) u, news[j]? = some u → w.cell? (ad.add j) = some u) (h1 : ∀ u ∈ news, u.oneCell' = true)
    (h63 : n + m ≤ maxLen) (hbytes : (n + m) * bytes ≤ 140737488355328) :
    ∃ v' w', (Builtin.append_ #[t, t] ty #[v, .slice A m c]).run P w = .ok v' w' ∧ w'.ownsRow 0 e size v' (n + m) (xs ++ news) ∧
      ((m = 0 ∧ v' = v ∧ w' = w) ∨ (∃ g cur cur', v.ownBlock = some g ∧ v'.ownBlock = some g ∧ w.heap[g]? = some (.cells cur e (0, 0)) ∧ w' = w.setRow g cur') ∨ (∃ cs, v'.ownBlock = some w.heap.size ∧ w' = w.drew.alloc (.cells cs e))) := by
  subst hsize
  subst hby
  by_cases hm : m = 0
  · subst hm
    have hn : news = [] := List.eq_nil_of_length_eq_zero (by simpa using hl)
    subst hn
    refine ⟨v, w, ?_, by simpa using hown, Or.inl ⟨rfl, rfl, rfl⟩⟩
    rcases hown.2 with ⟨rfl, hn⟩ | ⟨g, cap, cur, rfl, _, _, hnc, _⟩
    · subst hn
      cases A <;> simp [Builtin.append_, run_underlying ht, sizeOf, typeInfo, hi, Builtin.lenOf, Builtin.firstCells, loadCells, loadCellsFrom]
    · cases A <;> simp [Builtin.append_, run_underlying ht, sizeOf, typeInfo, hi, Builtin.lenOf, Builtin.firstCells, hnc, storeCells, loadCells, loadCellsFrom]
  obtain ⟨ad, rfl, hnews'⟩ := hnews (by omega)
  clear hnews
  have hnews := hnews'
  have hsmall : n + m ≤ 9223372036854775807 := by simp only [maxLen] at h63; omega
  have hlen : (xs ++ news).length = (n + m) * i.size := by rw [List.length_append, hown.1, hl, Nat.add_mul]
  have grown : ∀ (old : Nat), old < n + m →
      (w.drew.alloc (.cells (xs.toArray ++ news.toArray ++ Builtin.zeroCells z.cells (grownCap w (n + m) old e - (n + m))) e)).ownsRow 0 e i.size
        (.slice (some ⟨w.heap.size, 0, none⟩) (n + m) (grownCap w (n + m) old e)) (n + m) (xs ++ news) := by
    intro old ho
    have hge := grownCap_ge w (n + m) old e
    have hcm : grownCap w (n + m) old e ≤ maxLen := grownCap_le_maxLen w (n + m) old e h63
    refine ⟨hlen, .inr ⟨w.heap.size, _, _, rfl, Nat.zero_le _, heap_alloc_new w.drew _, hge, hcm, ?_, ?_⟩⟩
    · simp only [Array.size_append, List.size_toArray, size_zeroCells, hzs, hown.1, hl, ← Nat.add_mul]
      congr 1
      omega
    · simp only [Array.toList_append, List.append_assoc]
      rw [← List.append_assoc, ← hlen]
      exact List.take_left
  rcases hown.2 with ⟨rfl, rfl⟩ | ⟨g, cap, cur, rfl, hbg, hg, hnc, hcm, hcs, htake⟩
  · have hx : xs = [] := List.eq_nil_of_length_eq_zero (by simpa using hown.1)
    subst hx
    have hr := run_append_nil (P := P) w t ty e i z ht hi hz ad m c news hl hnews (by omega) (by omega) (by have hb := hbytes; simp only [Nat.zero_add] at hb; omega)
    have hgr := grown 0 (by omega)
    simp only [Nat.zero_add, List.nil_append, Array.empty_append] at hgr ⊢
    exact ⟨_, _, hr, hgr, Or.inr (Or.inr ⟨_, rfl, rfl⟩)⟩
  · by_cases hroom : n + m ≤ cap
    · have hfit : n * i.size + news.length ≤ cur.size := by rw [hl, hcs, ← Nat.add_mul]; exact Nat.mul_le_mul_right _ hroom
      have hr := run_append_room (P := P) w t ty e i ht hi g n cap cur hg ad m c news hl hnews h1 hroom hfit
      refine ⟨_, _, hr, ⟨hlen, .inr ⟨g, cap, _, rfl, hbg, setRow_heap w g cur _ e _ hg, hroom, hcm, ?_, ?_⟩⟩, Or.inr (Or.inl ⟨g, cur, _, rfl, rfl, hg, rfl⟩)⟩
      · simp only [List.size_toArray, List.length_append, List.length_take, List.length_drop, Array.length_toList]
        omega
      · rw [htake, ← hlen]
        exact List.take_left
    · have holds : ∀ (j : Nat) u, xs[j]? = some u → w.cell? ((⟨g, 0, none⟩ : Addr).add j) = some u := hown.cells (g := g) rfl
      have hr := run_append_grow (P := P) w t ty e i z ht hi hz ⟨g, 0, none⟩ n cap xs hown.1 holds ad m c news hl hnews (by omega) (by omega) (growslice_fits (by omega) hbytes)
      have hgr := grown cap (by omega)
      exact ⟨_, _, hr, hgr, Or.inr (Or.inr ⟨_, rfl, rfl⟩)⟩

def appOwn (own : Key → Nat → Option (Nat × Nat)) (n d : Nat) (be : Nat × Nat) : Key → Nat → Option (Nat × Nat) := fun k j => if k = .t d then (if j = 0 then some be else none) else if k = .t n then none else own k j

theorem ownBlock_form {w : World} {e sz n : Nat} {v : Value} {xs : List Value} (h : w.ownsRow 0 e sz v n xs) {g : Nat} (hg : v.ownBlock = some g) : ∃ cap cur, v = .slice (some ⟨g, 0, none⟩) n cap ∧ w.heap[g]? = some (.cells cur e (0, 0)) ∧ n ≤ cap ∧ cap ≤ maxLen ∧ cur.size = cap * sz ∧ cur.toList.take (n * sz) = xs := by
  rcases h.2 with ⟨rfl, _⟩ | ⟨g', cap, cur, rfl, _, r⟩
  · cases hg
  · cases hg; exact ⟨cap, cur, rfl, r⟩

/-- An append: the slot n is what it appends to, the slot d gets what comes of it. -/
theorem Rel.app (h : Rel X G s a w) {n d : Nat} (hd : d < a.tmps.size) (hn : n ≠ d) {e sz : Nat} {es rows : List (List PV)} (hs : s (.t n) = .os e sz es)
    {v' : Value} {w' : World} {xs news : List Value} (hx : PRs (fp X G) w xs es.flatten) (hnews : PRs (fp X G) w news rows.flatten) (hrl : ∀ r ∈ rows, r.length = sz)
    (hown : w.ownsRow 0 e sz (a.tmps.getD n Go.undef) es.length xs)
    (hown' : w'.ownsRow 0 e sz v' (es.length + rows.length) (xs ++ news))
    (hcase : (rows.length = 0 ∧ v' = a.tmps.getD n Go.undef ∧ w' = w) ∨ (∃ g cur cur', (a.tmps.getD n Go.undef).ownBlock = some g ∧ v'.ownBlock = some g ∧ w.heap[g]? = some (.cells cur e (0, 0)) ∧ w' = w.setRow g cur') ∨ (∃ cs, v'.ownBlock = some w.heap.size ∧ w' = w.drew.alloc (.cells cs e))) :
    ∃ G', Rel X G' ((s.up (.t n) (s (.t n)).dem2).up (.t d) (.os e sz (es ++ rows))) (a.put (some d) v') w' ∧ ∀ x, G'.site x = G.site x := by
  have htn := h.tmp n
  rw [hs] at htn
  obtain ⟨⟨xs0, q1, q2, q3, q4, q5⟩, q6⟩ := htn
  rcases hcase with ⟨h0, rfl, rfl⟩ | ⟨g, cur, cur', hg, hg', hcur, rfl⟩ | ⟨cs, hg', rfl⟩
  · have : rows = [] := List.eq_nil_of_length_eq_zero h0
    subst this
    rw [List.append_nil]
    have := h.move hd hn
    rw [hs] at this
    rwa [hs]
  · -- in place
    obtain ⟨cap, cur0, hv, hc0, hnc, hcm, hcs, htake⟩ := ownBlock_form hown hg
    rw [hcur] at hc0
    cases hc0
    obtain ⟨cap', cur1, hv', hc1, hnc', hcm', hcs', htake'⟩ := ownBlock_form hown' hg'
    rw [setRow_heap w g cur cur' e _ hcur] at hc1
    cases hc1
    have how : G.own (.t n) 0 = some (g, es.length * sz) := by
      rcases q5 with ⟨e1, _⟩ | ⟨g1, n1, c1, e1, e2⟩
      · rw [hv] at e1; cases e1
      · rw [hv] at e1; cases e1; exact e2
    have hflen : xs.length = es.length * sz := by rw [hown.1]
    have hoth : ∀ b', b' ≠ g → (w.setRow g cur').heap[b']? = w.heap[b']? := fun b' hne => setRow_other w g b' cur' hne
    have hcellg : ∀ o v, o < es.length * sz → w.cell? ⟨g, o, none⟩ = some v → (w.setRow g cur').cell? ⟨g, o, none⟩ = some v := fun o v ho hc => by
      rw [cell_of_heap hcur] at hc
      rw [cell_of_heap (setRow_heap w g cur cur' e _ hcur)]
      have e1 : xs[o]? = some v := by rw [← htake, List.getElem?_take, if_pos ho]; simpa using hc
      have e2 : (xs ++ news)[o]? = some v := by rw [List.getElem?_append_left (by omega)]; exact e1
      rw [← htake', List.getElem?_take] at e2
      split at e2
      · simpa using e2
      · cases e2
    have hsafe : ∀ b o, G.safe b o → Gh.safe ⟨G.site, appOwn G.own n d (g, (es.length + rows.length) * sz)⟩ b o := fun b o hsf => ⟨hsf.1, fun k j e' he => by
      simp only [appOwn] at he
      split at he
      · split at he
        · cases he
          have := hsf.2 _ _ _ how
          rw [Nat.add_mul]
          omega
        · cases he
      · split at he
        · cases he
        · exact hsf.2 k j e' he⟩
    have hfp : ∀ b' o v, fp X G b' o → w.cell? ⟨b', o, none⟩ = some v → fp X ⟨G.site, appOwn G.own n d (g, (es.length + rows.length) * sz)⟩ b' o ∧ (w.setRow g cur').cell? ⟨b', o, none⟩ = some v := fun b' o v hf hc => by
      refine ⟨⟨hf.1, hsafe b' o hf.2⟩, ?_⟩
      by_cases hb : b' = g
      · subst hb
        exact hcellg o v (hf.2.2 _ _ _ how) hc
      · exact (World.cell?_of_block (a := ⟨b', o, none⟩) (hoth b' hb)).trans hc
    have hsize : (w.setRow g cur').heap.size = w.heap.size := by simp [World.setRow]
    have hsites : ∀ x b, G.site x = some b → (w.setRow g cur').heap[b]? = w.heap[b]? := fun x b hx => hoth b (by rintro rfl; exact h.ownS _ _ _ _ x how hx)
    have hownO : ∀ k j g1 e1, k ≠ .t n → G.own k j = some (g1, e1) → (w.setRow g cur').heap[g1]? = w.heap[g1]? := fun k j g1 e1 hk he => hoth g1 (by
      rintro rfl
      exact hk (h.ownI _ _ _ _ _ _ _ he how).1)
    refine ⟨⟨G.site, appOwn G.own n d (g, (es.length + rows.length) * sz)⟩, ⟨fun t => ?_, fun x => ?_, fun k j k' j' b e1 e2 g1 g2 => ?_, fun k j b e1 x g1 => ?_, h.siteI, fun x b hx => ?_, fun k j b e1 g1 => ?_, fun b o ho => hsafe b o (h.okS b o ho), h.okB, ?_, (put_defers _ _ _).trans h.df⟩, fun _ => rfl⟩
    · by_cases ht : t = d
      · subst ht
        rw [getD_put_same hd, S.up_same]
        refine ⟨⟨xs ++ news, by simpa using hown', ?_, ?_, q4, Or.inr ⟨g, _, cap', hv', by simp [appOwn]⟩⟩, fun j hj => ?_⟩
        · rw [List.flatten_append]
          exact (hx.mono hfp).append (hnews.mono hfp)
        · intro r hr
          rcases List.mem_append.1 hr with hr | hr
          · exact q3 r hr
          · exact hrl r hr
        · simp [appOwn, show j ≠ 0 by omega]
      · rw [getD_put_other ht, S.up_other _ _ (by simp [ht])]
        by_cases htn : t = n
        · subst htn
          rw [S.up_same]
          have e1 : appOwn G.own t d (g, (es.length + rows.length) * sz) (.t t) = fun _ => none := by funext j; simp [appOwn, ht]
          simp only [e1]
          refine VR2.mono hfp (fun _ _ h => h) (fun _ _ _ he => by cases he) ((h.tmp t).dem fun j g e he o ho => h.ownfp he ho)
        · rw [S.up_other _ _ (by simp [htn])]
          have e1 : appOwn G.own n d (g, (es.length + rows.length) * sz) (.t t) = G.own (.t t) := by funext j; simp [appOwn, ht, htn]
          simp only [e1]
          exact (h.tmp t).mono hfp (fun _ _ h => h) fun j g1 e1 he => hownO _ j g1 e1 (by simp [htn]) he
    · rw [S.up_other _ _ (by simp), S.up_other _ _ (by simp)]
      have e1 : appOwn G.own n d (g, (es.length + rows.length) * sz) (.m x) = G.own (.m x) := by funext j; simp [appOwn]
      simp only [e1]
      exact (h.mem x).mono hfp (fun _ _ h => h) (fun b hb => ⟨hb, hsites x b hb⟩) fun j g1 e1 he => hownO _ j g1 e1 (by simp) he
    · simp only [appOwn] at g1 g2
      have key : ∀ k j e1, (if k = Key.t d then (if j = 0 then some (g, (es.length + rows.length) * sz) else none) else if k = Key.t n then none else G.own k j) = some (b, e1) → (k = .t d ∧ j = 0 ∧ b = g) ∨ (k ≠ .t d ∧ k ≠ .t n ∧ G.own k j = some (b, e1)) := fun k j e1 hk => by
        split at hk
        · split at hk
          · cases hk; exact Or.inl ⟨by assumption, by assumption, rfl⟩
          · cases hk
        · split at hk
          · cases hk
          · exact Or.inr ⟨by assumption, by assumption, hk⟩
      rcases key _ _ _ g1 with ⟨r1, r2, r3⟩ | ⟨r1, r2, r3⟩ <;> rcases key _ _ _ g2 with ⟨p1, p2, p3⟩ | ⟨p1, p2, p3⟩
      · exact ⟨r1.trans p1.symm, r2.trans p2.symm⟩
      · subst r3; exact absurd (h.ownI _ _ _ _ _ _ _ p3 how).1 p2
      · subst p3; exact absurd (h.ownI _ _ _ _ _ _ _ r3 how).1 r2
      · exact h.ownI _ _ _ _ _ _ _ r3 p3
    · simp only [appOwn] at g1
      split at g1
      · split at g1
        · cases g1; exact h.ownS _ _ _ _ x how
        · cases g1
      · split at g1
        · cases g1
        · exact h.ownS _ _ _ _ x g1
    · obtain ⟨r1, r2⟩ := h.siteF x b hx
      exact ⟨by rw [hsize]; exact r1, r2⟩
    · simp only [appOwn] at g1
      rw [hsize]
      split at g1
      · split at g1
        · cases g1; exact h.ownF _ _ _ _ how
        · cases g1
      · split at g1
        · cases g1
        · exact h.ownF _ _ _ _ g1
    · obtain ⟨_, hgF⟩ := h.ownF _ _ _ _ how
      refine ⟨h.fr.os, h.fr.tape, h.fr.output, by rw [hsize]; exact h.fr.size, fun b' hb' hl => ?_, fun b' o ho => ?_⟩
      · have hne : b' ≠ g := by
          rintro rfl
          rcases hgF with q | q
          · omega
          · exact hl q
        exact (hoth b' hne).trans (h.fr.block b' hb' hl)
      · rw [← h.fr.cell b' o ho]
        by_cases hb : b' = g
        · subst hb
          have ho' := (h.okS b' o ho).2 _ _ _ how
          have hlt : o < cur.size := by
            rw [hcs]
            exact Nat.lt_of_lt_of_le ho' (Nat.mul_le_mul_right _ hnc)
          have hc := cell_of_heap hcur o
          rw [Array.getElem?_eq_getElem hlt] at hc
          rw [hc]
          exact hcellg o _ ho' hc
        · exact World.cell?_of_block (a := ⟨b', o, none⟩) (hoth b' hb)
  · -- in a new block
    obtain ⟨cap', cur1, hv', hc1, hnc', hcm', hcs', htake'⟩ := ownBlock_form hown' hg'
    have hmono0 : ∀ b o v, fp X G b o → w.cell? ⟨b, o, none⟩ = some v → fp X G b o ∧ w.drew.cell? ⟨b, o, none⟩ = some v := fun _ _ _ hf hc => ⟨hf, hc⟩
    refine ⟨⟨G.site, appOwn G.own n d (w.heap.size, (es.length + rows.length) * sz)⟩, h.drew.newBlock _ (fun x b hb => hb) (fun x b hb => Or.inl hb) (fun k j b e' hb => ?_) (fun x y h1 h2 => ?_) (fun k j k' j' e' e'' h1 h2 => ?_) (fun k j e' x h1 hx => ?_) (fun hfp t => ?_) (fun hfp x => ?_) ((put_defers _ _ _).trans h.df), fun _ => rfl⟩
    · simp only [appOwn] at hb
      split at hb
      · split at hb
        · cases hb; exact Or.inr rfl
        · cases hb
      · split at hb
        · cases hb
        · exact Or.inl hb
    · have := (h.siteF x _ h1).1
      exact absurd this (Nat.lt_irrefl _)
    · have key : ∀ k j e', appOwn G.own n d (w.heap.size, (es.length + rows.length) * sz) k j = some (w.heap.size, e') → k = .t d ∧ j = 0 := fun k j e' hk => by
        simp only [appOwn] at hk
        split at hk
        · split at hk
          · exact ⟨by assumption, by assumption⟩
          · cases hk
        · split at hk
          · cases hk
          · have := (h.ownF _ _ _ _ hk).1
            exact absurd this (Nat.lt_irrefl _)
      obtain ⟨rfl, rfl⟩ := key _ _ _ h1
      obtain ⟨rfl, rfl⟩ := key _ _ _ h2
      exact ⟨rfl, rfl⟩
    · have := (h.siteF x _ hx).1
      exact absurd this (Nat.lt_irrefl _)
    · by_cases ht : t = d
      · subst ht
        rw [getD_put_same hd, S.up_same]
        refine ⟨⟨xs ++ news, by simpa using hown', ?_, ?_, q4, Or.inr ⟨_, _, cap', hv', by simp [appOwn]⟩⟩, fun j hj => ?_⟩
        · rw [List.flatten_append]
          exact ((hx.mono hmono0).mono hfp).append ((hnews.mono hmono0).mono hfp)
        · intro r hr
          rcases List.mem_append.1 hr with hr | hr
          · exact q3 r hr
          · exact hrl r hr
        · simp [appOwn, show j ≠ 0 by omega]
      · rw [getD_put_other ht, S.up_other _ _ (by simp [ht])]
        by_cases htn : t = n
        · subst htn
          rw [S.up_same]
          have e1 : appOwn G.own t d (w.heap.size, (es.length + rows.length) * sz) (.t t) = fun _ => none := by funext j; simp [appOwn, ht]
          simp only [e1]
          refine VR2.mono hfp (fun _ _ h => h) (fun _ _ _ he => by cases he) ((h.drew.tmp t).dem fun j g e he o ho => h.drew.ownfp he ho)
        · rw [S.up_other _ _ (by simp [htn])]
          have e1 : appOwn G.own n d (w.heap.size, (es.length + rows.length) * sz) (.t t) = G.own (.t t) := by funext j; simp [appOwn, ht, htn]
          simp only [e1]
          exact (h.drew.tmp t).mono hfp (fun _ _ h => h) fun j g1 e1 he => own_heap h.drew _ he
    · rw [S.up_other _ _ (by simp), S.up_other _ _ (by simp)]
      have e1 : appOwn G.own n d (w.heap.size, (es.length + rows.length) * sz) (.m x) = G.own (.m x) := by funext j; simp [appOwn]
      simp only [e1]
      exact (h.drew.mem x).mono hfp (fun _ _ h => h) (fun b hb => ⟨hb, Below.heap_alloc w.drew _ b (h.siteF x b hb).1⟩) fun j g1 e1 he => own_heap h.drew _ he
end
end Go.Abs
end
