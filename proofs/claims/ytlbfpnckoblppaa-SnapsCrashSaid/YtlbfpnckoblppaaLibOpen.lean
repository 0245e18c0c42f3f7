/- Reading an argument by its shape: whatever value comes in for a type of bools, integers, strings, arrays, structs and slices, its cells are as the shape says. No condition. -/
import Derived.Test.YtlbfpnckoblppaaRows
import Derived.WalkKit
import Derived.ProofKit
import Derived.OpenShut
import Derived.ChangeOld
import Derived.ChangeArms
set_option linter.unusedSimpArgs false
set_option linter.unusedVariables false
namespace Go.Ours
open Go.RowKit

inductive Shp where
  | bool
  | int (k : IntKind)
  | str
  | slice (e : Shp)
  | arr (n : Nat) (e : Shp)
  | unit
  | pair (a b : Shp)

def Shp.size : Shp → Nat
  | .bool => 1
  | .int _ => 1
  | .str => 1
  | .slice _ => 1
  | .arr n e => n * e.size
  | .unit => 0
  | .pair a b => a.size + b.size

/-- The cells 'cs' read as the shape says. -/
def Shp.Reads (w : World) : Shp → List Value → Prop
  | .bool, cs => ∃ b, cs = [.bool b]
  | .int k, cs => ∃ n, cs = [.int k n] ∧ (Lit.int k n).wf = true
  | .str, cs => ∃ s, cs = [.string s]
  | .slice e, cs => cs = [.slice none 0 0] ∨ ∃ a len cap, cs = [.slice (some a) len cap] ∧ len ≤ cap ∧ cap ≤ maxLen ∧
      ∀ i, i < cap → ∃ vs, w.cells? 0 (a.add (i * e.size)) e.size = some vs ∧ e.Reads w vs
  | .arr n e, cs => cs.length = n * e.size ∧ ∀ i, i < n → e.Reads w ((cs.drop (i * e.size)).take e.size)
  | .unit, cs => cs = []
  | .pair a b, cs => a.Reads w (cs.take a.size) ∧ b.Reads w (cs.drop a.size)

def fitsFields (fit : TypeId → Shp → Bool) : List Field → Nat → Shp → Bool
  | [], _, .unit => true
  | f :: r, off, .pair a b => f.offset == off && fit f.type a && fitsFields fit r (off + a.size) b
  | _, _, _ => false

def Shp.fits (P : Program) : Nat → TypeId → Shp → Bool
  | 0, _, _ => false
  | d + 1, t, s => P.cellsOf t == s.size && (match P.underlying t, s with
    | some .bool, .bool => true
    | some (.int k), .int k' => decide (k = k')
    | some .string, .str => true
    | some (.slice e), .slice s => Shp.fits P d e s
    | some (.array n e), .arr m s => n == m && Shp.fits P d e s
    | some (.struct fs), s => fitsFields (Shp.fits P d) fs.toList 0 s
    | _, _ => false)

section
variable {H : Type} {enc : TypeId × Value → H} {P : Program} {w : World} {spare : Nat → Bool} {held : Bool}

theorem fits_size {d : Nat} {t : TypeId} {s : Shp} (h : Shp.fits P d t s = true) : P.cellsOf t = s.size := by
  cases d with
  | zero => simp [Shp.fits] at h
  | succ d => simp [Shp.fits] at h; exact h.1

theorem fields_reads {fit : TypeId → Shp → Bool} {r : TypeId → List Value → Option (DataW H × List MemPlace)}
    (hfit : ∀ t s, fit t s = true → P.cellsOf t = s.size)
    (hr : ∀ t s cs x, fit t s = true → r t cs = some x → s.Reads w cs) (cs : List Value) :
    ∀ (l : List Field) (off : Nat) (s : Shp), fitsFields fit l off s = true → cs.length = off + s.size →
      (∀ (i : Nat) (f : Field), l[i]? = some f → ∃ y, r f.type ((cs.drop f.offset).take (P.cellsOf f.type)) = some y) → s.Reads w (cs.drop off) := by
  intro l
  induction l with
  | nil =>
    intro off s h hl _
    cases s <;> first | (simp [fitsFields] at h; done) | (simp only [Shp.size] at hl; exact List.drop_eq_nil_of_le (by omega))
  | cons f r' ih =>
    intro off s h hl hm
    cases s with
    | pair a b =>
      simp only [fitsFields, Bool.and_eq_true, beq_iff_eq] at h
      obtain ⟨⟨h1, h2⟩, h3⟩ := h
      obtain ⟨y, hy⟩ := hm 0 f rfl
      have ha := hr _ _ _ _ h2 hy
      have hb := ih (off + a.size) b h3 (by simp only [Shp.size] at hl; omega) (fun i g hg => hm (i + 1) g (by simpa using hg))
      rw [hfit _ _ h2, h1] at ha
      refine ⟨ha, ?_⟩
      rw [List.drop_drop]
      exact hb
    | _ => simp [fitsFields] at h

theorem reads_of_trod : ∀ (d : Nat) (n : Nat) (t : TypeId) (s : Shp) (cs : List Value) (x : DataW H × List MemPlace),
    Shp.fits P d t s = true → DataW.trod enc P w 0 (fun _ => true) held n t cs = some x → s.Reads w cs := by
  intro d
  induction d with
  | zero => intro n t s cs x h; simp [Shp.fits] at h
  | succ d ih =>
    intro n t s cs x h hx
    have hsz := fits_size h
    simp only [Shp.fits, Bool.and_eq_true] at h
    obtain ⟨-, h⟩ := h
    split at h
    · rename_i hu
      obtain ⟨b, hb, _⟩ := DataW.trod_bool hu hx
      exact ⟨b, hb⟩
    · rename_i k k' hu
      obtain rfl : k = k' := by simpa using h
      obtain ⟨b, hb, _, hw⟩ := DataW.trod_int hu hx
      exact ⟨b, hb, hw⟩
    · rename_i hu
      obtain ⟨b, hb, _⟩ := DataW.trod_string hu hx
      exact ⟨b, hb⟩
    · rename_i e s' hu
      have he := fits_size h
      rcases DataW.trod_slice hu hx with ⟨hcs, _⟩ | ⟨a, len, cap, elems, rest, m, _, hcs, _, _, hlc, hcm, hel, h1, h2, _⟩
      · exact Or.inl hcs
      · refine Or.inr ⟨a, len, cap, hcs, hlc, hcm, fun i hi => ?_⟩
        have key : ∃ y, (w.cells? 0 (a.add (i * P.cellsOf e)) (P.cellsOf e)).bind (DataW.trod enc P w 0 (fun _ => true) held m e) = some y := by
          by_cases hil : i < len
          · have := h1 i hil
            rw [this]
            exact ⟨elems[i]'(by omega), List.getElem?_eq_getElem (by omega)⟩
          · obtain ⟨hr, h2⟩ := h2 rfl
            have := h2 (i - len) (by omega)
            rw [show len + (i - len) = i by omega] at this
            rw [this]
            exact ⟨rest[i - len]'(by omega), List.getElem?_eq_getElem (by omega)⟩
        obtain ⟨y, hy⟩ := key
        rw [Option.bind_eq_some_iff] at hy
        obtain ⟨vs, hvs, hy⟩ := hy
        rw [he] at hvs
        exact ⟨vs, hvs, ih _ _ _ _ _ h hy⟩
    · rename_i n' e m' s' hu
      simp only [Bool.and_eq_true, beq_iff_eq] at h
      obtain ⟨rfl, h⟩ := h
      have he := fits_size h
      obtain ⟨xs, m, _, _, hl, hxs, hg⟩ := DataW.trod_array hu hx
      refine ⟨by rw [hl, hsz]; rfl, fun i hi => ?_⟩
      have := hg i hi
      rw [List.getElem?_eq_getElem (by omega), he] at this
      exact ih _ _ _ _ _ h this
    · rename_i fs hu
      obtain ⟨xs, m, _, _, hl, hxs, hg⟩ := DataW.trod_struct hu hx
      have := fields_reads (P := P) (w := w) (fit := Shp.fits P d) (r := DataW.trod enc P w 0 (fun _ => true) held m) (fun _ _ => fits_size) (fun t s cs x => ih m t s cs x) cs fs.toList 0 _ h (by omega)
        (fun i f hf => by
          have hf' : fs[i]? = some f := by simpa using hf
          have hi : i < fs.size := by
            by_cases hlt : i < fs.size
            · exact hlt
            · rw [Array.getElem?_eq_none (by omega)] at hf'; simp at hf'
          have := hg i f hf'
          rw [List.getElem?_eq_getElem (by omega)] at this
          exact ⟨_, this⟩)
      simpa using this
    · simp at h

/-- The shape of an argument, read. -/
theorem reads_of_Trod {d : Nat} {t : TypeId} {s : Shp} {v : Value} {x : DataW H} {ps : List MemPlace} (h : Shp.fits P d t s = true)
    (hx : DataW.Trod enc P w 0 (fun _ => true) held t v x ps) : s.Reads w v.cells.toList := by
  obtain ⟨n, hn⟩ := hx
  exact reads_of_trod d n t s _ _ h hn

theorem agg_of_struct {r : Reach} {base : Nat} {t : TypeId} {fs : Array Field} {v : Value} (ht : P.underlying t = some (.struct fs)) (h : Value.okWide P w r base t v) : ∃ cs : Array Value, v = .agg cs := by
  simp only [Value.okWide, ht] at h
  obtain ⟨cs, h, _⟩ := h
  exact ⟨cs, h⟩
theorem agg_of_array {r : Reach} {base : Nat} {t e : TypeId} {n : Nat} {v : Value} (ht : P.underlying t = some (.array n e)) (h : Value.okWide P w r base t v) : ∃ cs : Array Value, v = .agg cs := by
  simp only [Value.okWide, ht] at h
  obtain ⟨cs, h, _⟩ := h
  exact ⟨cs, h⟩
end

theorem cells_get {w : World} {a : Addr} {n : Nat} {vs : List Value} (h : w.cells? 0 a n = some vs) : vs.length = n ∧ ∀ j, j < n → w.cell? (a.add j) = vs[j]? := by
  unfold World.cells? at h
  rw [if_pos (Nat.zero_le _)] at h
  have hl : vs.length = n := by simpa using mapM_some_length h
  refine ⟨hl, fun j hj => ?_⟩
  exact mapM_some_get h j j (by simp [hj])

theorem spot_of_cell {w : World} {a : Addr} {v : Value} (h : w.cell? a = some v) : a = ⟨a.block, a.off, none⟩ := by
  obtain ⟨b, o, s⟩ := a
  cases s with
  | none => rfl
  | some s => simp only [World.cell?] at h; split at h <;> simp at h

theorem Addr.add_plain (b o n : Nat) : (⟨b, o, none⟩ : Addr).add n = ⟨b, o + n, none⟩ := by
  unfold Go.Addr.add
  split
  · rename_i h; subst h; rfl
  · rfl

/-- One element of a slice that came in: its cells, and how they read. -/
theorem elem_of_reads {w : World} {e : Shp} {a : Addr} {l c : Nat} (k : Shp.Reads w (.slice e) [.slice (some a) l c]) (he : 0 < e.size) {i : Nat} (hi : i < c) :
    ∃ b o, a = ⟨b, o, none⟩ ∧ ∃ vs, vs.length = e.size ∧ (∀ j, j < e.size → w.cell? ⟨b, o + i * e.size + j, none⟩ = vs[j]?) ∧ e.Reads w vs := by
  rcases k with k | ⟨a', l', c', k, h1, h2, h3⟩
  · simp at k
  · simp only [List.cons.injEq, Value.slice.injEq, Option.some.injEq, and_true] at k
    obtain ⟨rfl, rfl, rfl⟩ := k
    have hsp : a = ⟨a.block, a.off, none⟩ := by
      obtain ⟨vs, hv, _⟩ := h3 0 (by omega)
      obtain ⟨hl, hg⟩ := cells_get hv
      have h0 := hg 0 he
      rw [List.getElem?_eq_getElem (by omega)] at h0
      have h0' : w.cell? a = some vs[0] := by simpa [Go.Addr.add] using h0
      exact spot_of_cell h0'
    refine ⟨a.block, a.off, hsp, ?_⟩
    obtain ⟨vs, hv, hr⟩ := h3 i hi
    obtain ⟨hl, hg⟩ := cells_get hv
    refine ⟨vs, hl, fun j hj => ?_, hr⟩
    rw [← hg j hj, hsp, Addr.add_plain, Addr.add_plain]

theorem len_of_reads {w : World} {e : Shp} {a : Option Addr} {l c : Nat} (k : Shp.Reads w (.slice e) [.slice a l c]) : l ≤ c ∧ c ≤ maxLen ∧ (a = none → l = 0 ∧ c = 0) := by
  rcases k with k | ⟨a', l', c', k, h1, h2, h3⟩
  · simp at k; obtain ⟨rfl, rfl, rfl⟩ := k; exact ⟨Nat.le_refl _, Nat.zero_le _, fun _ => ⟨rfl, rfl⟩⟩
  · simp only [List.cons.injEq, Value.slice.injEq, and_true] at k
    obtain ⟨rfl, rfl, rfl⟩ := k
    exact ⟨h1, h2, fun h => by cases h⟩
end Go.Ours
