/- Worlds, requests, replies as cells; what a batch does. -/
import Derived.Test.YtdbbbaaopngbcaaPlainExecs
set_option linter.unusedVariables false
set_option linter.unusedSimpArgs false
namespace Go.Proofs.Ytdbbbaaopngbcaa
open Go.Abs Go.RowKit Go.Ours

structure Rp where
  client : Int
  seq : Int
  slot : Int
  res : Cl
structure Rq where
  client : Int
  seq : Int
  kd : Int
  ky : Int
  a : Int
  b : Int
  sig : List Nat
structure Wd where
  slot : Int
  first : Int
  view : Int × Nat
  was : Int × Nat
  cells : List Cl
  last : List Rp
def rpP (r : Rp) : List PV := [.int .i64 r.client, .int .i64 r.seq, .int .i64 r.slot, .bool r.res.1, .int .i64 r.res.2]
def rqP (r : Rq) : List PV := [.int .i64 r.client, .int .i64 r.seq, .int .i64 r.kd, .int .i64 r.ky, .int .i64 r.a, .int .i64 r.b, .sl 1 (krows .u8 r.sig)]
def repsP (l : List Rp) : List PV := l.flatMap rpP
def wP (w : Wd) : List PV := .int .i64 w.slot :: .int .i64 w.first :: (vwP w.view ++ (vwP w.was ++ (cellsP w.cells ++ repsP w.last)))
structure WOk (w : Wd) : Prop where
  cl : w.cells.length = 16
  ll : w.last.length = 6
  nr : ∀ x ∈ w.cells, nrm x
  vm : w.view.2 < 65536
theorem mid_part {A B C : List PV} {a b : Nat} (ha : A.length = a) (hb : B.length = b) : ((A ++ (B ++ C)).drop a).take b = B := by
  rw [List.drop_append, ha, Nat.sub_self, List.drop_of_length_le (by omega), List.nil_append, List.drop_zero, List.take_append_of_le_length (by omega), List.take_of_length_le (by omega)]
theorem mid_put {A B C : List PV} {a b : Nat} (ha : A.length = a) (hb : B.length = b) (D : List PV) : (A ++ (B ++ C)).take a ++ (D ++ (A ++ (B ++ C)).drop (a + b)) = A ++ (D ++ C) := by
  rw [List.take_append_of_le_length (by omega), List.take_of_length_le (by omega), List.drop_append, ha, Nat.add_sub_cancel_left, List.drop_of_length_le (by omega), List.nil_append, List.drop_append, hb, Nat.sub_self, List.drop_of_length_le (by omega), List.nil_append, List.drop_zero]
theorem mid_get {A B C : List PV} {a i : Nat} (ha : A.length = a) (hi : i < B.length) : (A ++ (B ++ C))[a + i]? = B[i]? := by
  rw [List.getElem?_append_right (by omega), ha, Nat.add_sub_cancel_left, List.getElem?_append_left hi]
theorem rows_at {α : Type} {f : α → List PV} {m : Nat} (hf : ∀ x, (f x).length = m) : ∀ {l : List α} {k : Nat} {x : α}, l[k]? = some x → ∃ A C, l.flatMap f = A ++ (f x ++ C) ∧ A.length = k * m ∧ ∀ y, (l.set k y).flatMap f = A ++ (f y ++ C)
  | [], k, x, h => by simp at h
  | z :: l, 0, x, h => by
    simp at h
    subst h
    exact ⟨[], l.flatMap f, by simp, by simp, fun y => by simp⟩
  | z :: l, k + 1, x, h => by
    rw [List.getElem?_cons_succ] at h
    obtain ⟨A, C, h1, h2, h3⟩ := rows_at hf h
    refine ⟨f z ++ A, C, by simp [h1], by simp [h2, hf, Nat.succ_mul, Nat.add_comm], fun y => by simp [h3]⟩
theorem rpP_len (r : Rp) : (rpP r).length = 5 := rfl
theorem vwP_len (v : Int × Nat) : (vwP v).length = 2 := rfl
theorem vwP_0 (v : Int × Nat) : (vwP v)[0]? = some (.int .i64 v.1) := rfl
theorem repsP_len (l : List Rp) : (repsP l).length = 5 * l.length := by
  induction l with
  | nil => rfl
  | cons x l ih => simp only [repsP, List.flatMap_cons, List.length_append, List.length_cons, rpP_len] at ih ⊢; omega
theorem wP_len {w : Wd} (h : WOk w) : (wP w).length = 68 := by
  simp [wP, vwP_len, cellsP_len, repsP_len, h.cl, h.ll]
theorem wP_slot (w : Wd) : (wP w)[0]? = some (.int .i64 w.slot) := rfl
theorem wP_view (w : Wd) : ((wP w).drop 2).take 2 = vwP w.view := by simp [wP, vwP]
theorem wP_setSlot (w : Wd) (n : Int) : (wP w).set 0 (.int .i64 n) = wP { w with slot := n } := rfl
theorem wP_setFirst (w : Wd) (n : Int) : (wP w).set 1 (.int .i64 n) = wP { w with first := n } := rfl
theorem wP_setWas (w : Wd) (v : Int × Nat) : (wP w).take 4 ++ (vwP v ++ (wP w).drop 6) = wP { w with was := v } := by simp [wP, vwP]
theorem wP_setView (w : Wd) (v : Int × Nat) : (wP w).take 2 ++ (vwP v ++ (wP w).drop 4) = wP { w with view := v } := by simp [wP, vwP]
theorem wP_split (w : Wd) : ∃ A, wP w = A ++ (cellsP w.cells ++ repsP w.last) ∧ A.length = 6 ∧ ∀ c l, wP { w with cells := c, last := l } = A ++ (cellsP c ++ repsP l) :=
  ⟨.int .i64 w.slot :: .int .i64 w.first :: (vwP w.view ++ vwP w.was), by simp [wP], by simp [vwP_len], fun c l => by simp [wP]⟩
theorem wP_cells {w : Wd} (h : WOk w) : ((wP w).drop 6).take 32 = cellsP w.cells := by
  obtain ⟨A, h1, h2, _⟩ := wP_split w
  rw [h1]
  exact mid_part h2 (by rw [cellsP_len, h.cl])
theorem wP_setCells {w : Wd} (h : WOk w) (c : List Cl) : (wP w).take 6 ++ (cellsP c ++ (wP w).drop 38) = wP { w with cells := c } := by
  obtain ⟨A, h1, h2, h3⟩ := wP_split w
  rw [h1]
  have := mid_put (A := A) (B := cellsP w.cells) (C := repsP w.last) h2 (b := 32) (by rw [cellsP_len, h.cl]) (cellsP c)
  rw [show 6 + 32 = 38 from rfl] at this
  rw [this]
  exact (h3 c w.last).symm
theorem wP_last {w : Wd} (h : WOk w) {k : Nat} {r : Rp} (hr : w.last[k]? = some r) : ∃ A C, wP w = A ++ (rpP r ++ C) ∧ A.length = 38 + k * 5 ∧ ∀ y, wP { w with last := w.last.set k y } = A ++ (rpP y ++ C) := by
  obtain ⟨A, C, h1, h2, h3⟩ := rows_at rpP_len hr
  obtain ⟨B, g1, g2, g3⟩ := wP_split w
  refine ⟨B ++ (cellsP w.cells ++ A), C, ?_, ?_, fun y => ?_⟩
  · rw [g1]
    unfold repsP
    rw [h1]
    simp
  · simp [g2, cellsP_len, h.cl, h2]
    omega
  · have := g3 w.cells (w.last.set k y)
    rw [show ({ w with last := w.last.set k y } : Wd) = { w with cells := w.cells, last := w.last.set k y } from rfl, this]
    unfold repsP
    rw [h3]
    simp
theorem wP_seq {w : Wd} (h : WOk w) {k : Nat} {r : Rp} (hr : w.last[k]? = some r) : (wP w)[38 + k * 5 + 1]? = some (.int .i64 r.seq) := by
  obtain ⟨A, C, h1, h2, _⟩ := wP_last h hr
  rw [h1]
  exact mid_get h2 (by rw [rpP_len]; decide)
theorem wP_put {w : Wd} (h : WOk w) {k : Nat} {r : Rp} (hr : w.last[k]? = some r) (y : Rp) : (wP w).take (38 + k * 5) ++ PV.int .i64 y.client :: PV.int .i64 y.seq :: PV.int .i64 y.slot :: PV.bool y.res.1 :: PV.int .i64 y.res.2 :: (wP w).drop (38 + k * 5 + 5) = wP { w with last := w.last.set k y } := by
  obtain ⟨A, C, h1, h2, h3⟩ := wP_last h hr
  rw [h3, h1]
  exact mid_put h2 (rpP_len r) (rpP y)
/-- May a request be done? -/
def knownF (r : Rq) : Bool := decide (0 ≤ r.client ∧ r.client < 6) && opOk r.client r.kd r.ky r.a r.b
def lastSeq (w : Wd) (c : Int) : Int := (w.last[c.toNat]?.map (·.seq)).getD 0
/-- What a request that is done comes to: the cells, the next view, its result. -/
def actF (w : Wd) (nx : Int × Nat) (r : Rq) : List Cl × (Int × Nat) × Cl :=
  if r.kd = 6 then (if (nextF w.view.1 w.view.2 r.a).2 = 0 ∧ nx = w.view then (w.cells, (nextF w.view.1 w.view.2 r.a).1, (true, (nextF w.view.1 w.view.2 r.a).1.1)) else (w.cells, nx, (false, 0)))
  else ((doF w.cells r.kd r.ky r.a r.b).1, nx, (doF w.cells r.kd r.ky r.a r.b).2)
def repF (w : Wd) (nx : Int × Nat) (r : Rq) : Rp := ⟨r.client, r.seq, w.slot, (actF w nx r).2.2⟩
def doneF (w : Wd) (nx : Int × Nat) (r : Rq) : Wd := { w with cells := (actF w nx r).1, last := w.last.set r.client.toNat (repF w nx r) }
def skipF (w : Wd) (r : Rq) : Bool := !(knownF r) || decide (r.seq ≤ lastSeq w r.client)
def runF : List Rq → Wd → Int × Nat → List Rp → Wd × (Int × Nat) × List Rp
  | [], w, nx, out => (w, nx, out)
  | r :: l, w, nx, out => if skipF w r = true then runF l w nx out else runF l (doneF w nx r) (actF w nx r).2.1 (out ++ [repF w nx r])
def begF (w : Wd) : Wd := { w with was := w.view, slot := IntKind.i64.wrap (w.slot + 1) }
def endF (w : Wd) (nx : Int × Nat) : Wd := if nx = w.view then w else { w with view := nx, first := IntKind.i64.wrap (w.slot + 1) }
/-- What a batch does. -/
def execF (w : Wd) (l : List Rq) : Wd × List Rp := (endF (runF l (begF w) w.view []).1 (runF l (begF w) w.view []).2.1, (runF l (begF w) w.view []).2.2)
theorem nextF_lt (n : Int) (m : Nat) (a : Int) : (nextF n m a).1.2 < 65536 := by
  unfold nextF
  split
  · simp only
    omega
  · simp
theorem doneF_ok {w : Wd} (h : WOk w) (nx : Int × Nat) (r : Rq) : WOk (doneF w nx r) := by
  refine ⟨?_, ?_, ?_, h.vm⟩
  · simp only [doneF, actF]
    split
    · split <;> exact h.cl
    · simp only [doF_len]; exact h.cl
  · simp [doneF, h.ll]
  · simp only [doneF, actF]
    split
    · split <;> exact h.nr
    · exact doF_nrm _ _ _ _ _ h.nr
theorem act_nx_lt {w : Wd} (nx : Int × Nat) (r : Rq) (hx : nx.2 < 65536) : (actF w nx r).2.1.2 < 65536 := by
  unfold actF
  split
  · split
    · exact nextF_lt _ _ _
    · exact hx
  · exact hx
theorem runF_ok : ∀ (l : List Rq) (w : Wd) (nx : Int × Nat) (out : List Rp), WOk w → nx.2 < 65536 → WOk (runF l w nx out).1 ∧ (runF l w nx out).2.1.2 < 65536
  | [], w, nx, out, h, hx => ⟨h, hx⟩
  | r :: l, w, nx, out, h, hx => by
    rw [runF]
    split
    · exact runF_ok l w nx out h hx
    · exact runF_ok l _ _ _ (doneF_ok h nx r) (act_nx_lt nx r hx)
theorem begF_ok {w : Wd} (h : WOk w) : WOk (begF w) := ⟨h.cl, h.ll, h.nr, h.vm⟩
theorem endF_ok {w : Wd} (h : WOk w) (nx : Int × Nat) (hx : nx.2 < 65536) : WOk (endF w nx) := by
  unfold endF
  split
  · exact h
  · exact ⟨h.cl, h.ll, h.nr, hx⟩
theorem execF_ok {w : Wd} (h : WOk w) (l : List Rq) : WOk (execF w l).1 := by
  obtain ⟨h1, h2⟩ := runF_ok l (begF w) w.view [] (begF_ok h) h.vm
  exact endF_ok h1 _ h2
theorem vw_eq (a b : Int × Nat) : eqPVs (vwP a) (vwP b) = decide (a = b) := by
  obtain ⟨a1, a2⟩ := a
  obtain ⟨b1, b2⟩ := b
  by_cases h1 : a1 = b1 <;> by_cases h2 : a2 = b2 <;> simp [vwP, eqPVs, eqPV, h1, h2]
  all_goals omega
theorem vw_ck (a : Int × Nat) : ckAll [.i .i64, .i .u16] (vwP a) = true := rfl
end Go.Proofs.Ytdbbbaaopngbcaa
