/- Slices of bytes: read as a list, owned by the call, appended to. The lists are of naturals; a cell holds '.int .u8 ↑n'. -/
import Derived.Test.YtlbfpnckoblppaaLibRange
import Derived.Maps.AppendAt
import Derived.Deep.AppendLies
import Derived.OwnWalk
set_option linter.unusedVariables false
set_option linter.unusedSimpArgs false
namespace Go.Ours
open Go.RowKit

def bv (n : Nat) : Value := .int .u8 (n : Int)
def bcells (l : List Nat) : List Value := l.map bv
theorem bcells_length (l : List Nat) : (bcells l).length = l.length := by simp [bcells]
theorem bcells_append (l l' : List Nat) : bcells (l ++ l') = bcells l ++ bcells l' := by simp [bcells]
theorem bcells_get (l : List Nat) (k : Nat) : (bcells l)[k]? = l[k]?.map bv := by simp [bcells]
theorem bcells_one (l : List Nat) : ∀ v ∈ bcells l, v.oneCell' = true := by
  intro v hv
  obtain ⟨n, _, rfl⟩ := List.mem_map.1 hv
  rfl

/-- A slice of n bytes at A reads as l. -/
structure Rd (w : World) (A : Option Addr) (n : Nat) (l : List Nat) : Prop where
  len : l.length = n
  rng : 0 < n → ∃ b o, A = some ⟨b, o, none⟩ ∧ w.rangeAt b o (bcells l)

theorem Rd.nil (w : World) (A : Option Addr) : Rd w A 0 [] := ⟨rfl, fun h => absurd h (by omega)⟩
theorem Rd.at_ {w : World} {A : Option Addr} {n : Nat} {l : List Nat} (h : Rd w A n l) {k : Nat} (hk : k < n) :
    ∃ b o, A = some ⟨b, o, none⟩ ∧ w.cell? ⟨b, o + k, none⟩ = some (.int .u8 ((l.getD k 0 : Nat) : Int)) := by
  obtain ⟨b, o, hA, hr⟩ := h.rng (by omega)
  refine ⟨b, o, hA, hr k _ ?_⟩
  have hl := h.len
  rw [bcells_get, List.getElem?_eq_getElem (by omega), List.getD_eq_getElem?_getD, List.getElem?_eq_getElem (by omega)]
  rfl
theorem Rd.byte {w : World} {A : Option Addr} {n : Nat} {l : List Nat} (h : Rd w A n l) {k : Nat} (hk : k < n) :
    ∃ b o x, A = some ⟨b, o, none⟩ ∧ w.cell? ⟨b, o + k, none⟩ = some (.int .u8 ((x : Nat) : Int)) ∧ l[k]? = some x := by
  obtain ⟨b, o, hA, hr⟩ := h.rng (by omega)
  have hl := h.len
  have e : l[k]? = some (l[k]'(by omega)) := List.getElem?_eq_getElem (by omega)
  refine ⟨b, o, _, hA, hr k _ ?_, e⟩
  rw [bcells_get, e]
  rfl
def offBlock (A : Option Addr) (S : Nat → Prop) : Prop := ∀ a, A = some a → ¬ S a.block
theorem Rd.mod {S : Nat → Prop} {w w' : World} {A : Option Addr} {n : Nat} {l : List Nat} (h : Rd w A n l) (m : Mod S w w') (hs : offBlock A S) : Rd w' A n l :=
  ⟨h.len, fun hn => by
    obtain ⟨b, o, hA, hr⟩ := h.rng hn
    exact ⟨b, o, hA, m.range hr (hs _ hA)⟩⟩
theorem Rd.modNone {w w' : World} {A : Option Addr} {n : Nat} {l : List Nat} (h : Rd w A n l) (m : Mod none' w w') : Rd w' A n l := h.mod m fun _ _ h => h
theorem Rd.lt {w : World} {n : Nat} {l : List Nat} {b o : Nat} {s : Option Nat} (h : Rd w (some ⟨b, o, s⟩) n l) (hn : 0 < n) : b < w.heap.size := by
  obtain ⟨b', o', hA, hr⟩ := h.rng hn
  cases hA
  have hl := h.len
  exact lt_of_cell (hr 0 _ (by rw [List.getElem?_eq_getElem (by rw [bcells_length]; omega)]))

/-- The slice value v is the call's own, from block 'base' on: it reads as l. -/
def Ow (E : TypeId) (base : Nat) (w : World) (v : Value) (l : List Nat) : Prop := w.ownsRow base E 1 v l.length (bcells l)

section
variable {E : TypeId} {base : Nat} {w w' : World} {v : Value} {l : List Nat}
theorem Ow.nil (E : TypeId) (base : Nat) (w : World) : Ow E base w (.slice none 0 0) [] := World.ownsRow_nil w base E 1
theorem Ow.form (h : Ow E base w v l) : ∃ A c, v = .slice A l.length c ∧ Rd w A l.length l ∧ l.length ≤ c ∧ c ≤ maxLen ∧ (∀ a, A = some a → base ≤ a.block ∧ a.block < w.heap.size ∧ a = ⟨a.block, 0, none⟩) ∧ (A = none → l = [] ∧ c = 0) := by
  rcases h.2 with ⟨rfl, hn⟩ | ⟨g, cap, cur, rfl, hb, hg, hn, hc, hs, ht⟩
  · have hl : l = [] := List.eq_nil_of_length_eq_zero hn
    subst hl
    exact ⟨none, 0, rfl, Rd.nil _ _, Nat.le_refl _, Nat.zero_le _, (fun a h => by cases h), fun _ => ⟨rfl, rfl⟩⟩
  · have hlt : g < w.heap.size := (Array.getElem?_eq_some_iff.1 hg).1
    refine ⟨some ⟨g, 0, none⟩, cap, rfl, ⟨rfl, fun _ => ⟨g, 0, rfl, fun j u hu => ?_⟩⟩, hn, hc, (fun a ha => by cases ha; exact ⟨hb, hlt, rfl⟩), fun h => by cases h⟩
    rw [← ht] at hu
    rw [cell_of_block hg, Nat.zero_add]
    rw [List.getElem?_take] at hu
    split at hu
    · simpa using hu
    · cases hu
theorem Ow.mod {S : Nat → Prop} (h : Ow E base w v l) (m : Mod S w w') (hs : ∀ g, v.ownBlock = some g → ¬ S g) : Ow E base w' v l := by
  refine ⟨h.1, ?_⟩
  rcases h.2 with h2 | ⟨g, cap, cur, rfl, hb, hg, r⟩
  · exact Or.inl h2
  · exact Or.inr ⟨g, cap, cur, rfl, hb, (m.block g (Array.getElem?_eq_some_iff.1 hg).1 (hs g rfl)).trans hg, r⟩
theorem Ow.modNone (h : Ow E base w v l) (m : Mod none' w w') : Ow E base w' v l := h.mod m fun _ _ h => h
theorem Ow.less {base' : Nat} (h : Ow E base w v l) (hb : base' ≤ base) : Ow E base' w v l := by
  refine ⟨h.1, ?_⟩
  rcases h.2 with h2 | ⟨g, cap, cur, e, hbg, r⟩
  · exact Or.inl h2
  · exact Or.inr ⟨g, cap, cur, e, Nat.le_trans hb hbg, r⟩
end

theorem Mod.ofGrown {w w' : World} {row : Option Nat} (h : w.grownBy w' row) : Mod (fun k => row = some k) w w' :=
  ⟨h.os, h.tape, h.output, h.size, fun k hk hs => h.block k hk (fun e => hs e.symm)⟩

/-- What an append leaves: the slice is the call's own, longer; only its own row has turned. -/
structure Appended (E : TypeId) (base : Nat) (v : Value) (l : List Nat) (w : World) (v' : Value) (w' : World) : Prop where
  own : Ow E base w' v' l
  mod : Mod (fun k => v.ownBlock = some k) w w'
  lies : v'.ownBlock = v.ownBlock ∨ v'.ownBlock = some w.heap.size

/-- Of what was there when the call began nothing has turned. -/
theorem Appended.still {E : TypeId} {base : Nat} {v v' : Value} {l l0 : List Nat} {w0 w w' : World} (h : Appended E base v l w v' w') (ho : Ow E base w v l0) (hb : w0.heap.size ≤ base) (m : Mod none' w0 w) : Mod none' w0 w' :=
  m.step h.mod fun i hi hs => by
    obtain ⟨A, c, rfl, _, _, _, hA, _⟩ := ho.form
    cases A with
    | none => simp [Value.ownBlock] at hs
    | some a => simp [Value.ownBlock] at hs; have := (hA a rfl).1; omega

section
variable {P : Program} {t E : TypeId}

/-- append(v, x..) of a slice that reads as l'. -/
theorem run_app (ht : P.underlying t = some (.slice E)) (hi : (P.info? E).map (fun i => (i.zero, i.size, i.bytes)) = some (some (.int .u8 0), 1, 1))
    {base : Nat} {w : World} {v : Value} {l l' : List Nat} (ho : Ow E base w v l) {A : Option Addr} {m c : Nat} (hr : Rd w A m l') (hb : l.length + l'.length ≤ 100000000000) (hbase : base ≤ w.heap.size) (ty : TypeId) :
    ∃ v' w', (Builtin.append_ #[t, t] ty #[v, .slice A m c]).run P w = .ok v' w' ∧ Appended E base v (l ++ l') w v' w' := by
  obtain ⟨i, hi0, hz, hs, hby⟩ := info_parts hi
  have hm := hr.len
  by_cases h0 : m = 0
  · have hl' : l' = [] := List.eq_nil_of_length_eq_zero (by omega)
    subst hl' h0
    refine ⟨v, w, ?_, ⟨by simpa using ho, Mod.refl _ _, Or.inl rfl⟩⟩
    rcases ho.2 with ⟨rfl, hn⟩ | ⟨g, cap, cur, rfl, _, _, hnc, _⟩
    · cases A <;> simp [Builtin.append_, run_underlying ht, sizeOf, typeInfo, hi0, Builtin.lenOf, Builtin.firstCells, loadCells, loadCellsFrom]
    · cases A <;> simp [Builtin.append_, run_underlying ht, sizeOf, typeInfo, hi0, Builtin.lenOf, Builtin.firstCells, hnc, storeCells, loadCells, loadCellsFrom]
  · obtain ⟨b, o, rfl, hrng⟩ := hr.rng (by omega)
    obtain ⟨v', w', h1, h2, h3, _, h5⟩ := run_append_own_at (P := P) w base t ty E i (.int .u8 0) 1 1 ht hi0 hz hs hby rfl (by omega) v l.length (bcells l) ho ⟨b, o, none⟩ m c (bcells l')
      (by rw [bcells_length]; omega) (fun j u hu => by rw [Addr.add_mid]; exact hrng j u hu) (bcells_one l') (by unfold maxLen; omega) (by omega) hbase
    refine ⟨v', w', h1, ⟨?_, Mod.ofGrown h3, h5⟩⟩
    unfold Ow
    rw [List.length_append, bcells_append, hm]
    exact h2

theorem wpList_app (ht : P.underlying t = some (.slice E)) (hi : (P.info? E).map (fun i => (i.zero, i.size, i.bytes)) = some (some (.int .u8 0), 1, 1))
    {ops : Array Oper} {rest : List Oper} {o : Oper} {a : Act} {Q : Exit → Act → World → Prop} (hgd : o.guard = none) (s x : Operand)
    (hop : o.op = .call { callee := .builtin .append, args := #[s, x], argTypes := #[t, t] })
    {base : Nat} {w : World} {v : Value} {l l' : List Nat} (ho : Ow E base w v l) {A : Option Addr} {m c : Nat} (hr : Rd w A m l') (hs : a.eval s = v) (hx : a.eval x = .slice A m c) (hb : l.length + l'.length ≤ 100000000000) (hbase : base ≤ w.heap.size)
    (h : ∀ v' w', Appended E base v (l ++ l') w v' w' → wpList P ops Q rest (a.put o.dst v') w') : wpList P ops Q (o :: rest) a w := by
  refine wpList_plain hgd fun K hK => ?_
  obtain ⟨v', w', hrun, h2⟩ := run_app (P := P) ht hi ho hr hb hbase o.type
  unfold Oper.wp execOp
  simp only [hop, resolve, invoke, builtin, Sem.run_bind, Sem.run_pure, Result.andThen_ok, List.map_toArray, List.map_cons, List.map_nil, hs, hx]
  rw [hrun]
  exact hK _ _ (h v' w' h2)
end
/-- One byte, in a block of its own. -/
theorem Rd.one (w : World) (E : TypeId) (n : Nat) (e : Int) (h : e = n) : Rd (w.alloc (.cells #[.int .u8 e] E)) (some ⟨w.heap.size, 0, none⟩) 1 [n] := by
  subst h
  refine ⟨rfl, fun _ => ⟨_, _, rfl, rangeAt_cons ?_ (rangeAt_nil _ _ _)⟩⟩
  simp [bv]
end Go.Ours
