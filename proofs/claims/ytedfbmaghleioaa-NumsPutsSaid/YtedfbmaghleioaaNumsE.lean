/- The walks of nums.New and of a reader's At, Left, Done, Packed. -/
import Derived.Test.YtedfbmaghleioaaNumsD
import Derived.Test.YtedfbmaghleioaaPlainRead
set_option linter.unusedVariables false
set_option linter.unusedSimpArgs false
namespace Go.Proofs.Ytedfbmaghleioaa
open Go.RowKit Go.Ours

/-- At block b lies a reader of l, of which 'at_' bytes were read. -/
structure RdAt (w : World) (b : Nat) (A : Option Addr) (n c : Nat) (l : List Nat) (at_ : Nat) : Prop where
  c0 : w.cell? ⟨b, 0, none⟩ = some (.slice A n c)
  c1 : w.cell? ⟨b, 1, none⟩ = some (.int .i64 at_)
  fr : w.frozen? ⟨b, 1, none⟩ = false
  rd : Rd w A n l
  off : ∀ a, A = some a → a.block ≠ b
  cap : n ≤ c
  most : c ≤ maxLen
  nocap : A = none → c = 0
  small : n ≤ 1000000000
  le : at_ ≤ n
  bytes : ∀ x ∈ l, x < 256

theorem RdAt.mod {w w' : World} {b : Nat} {A : Option Addr} {n c : Nat} {l : List Nat} {at_ : Nat} (h : RdAt w b A n c l at_) (m : Mod none' w w') : RdAt w' b A n c l at_ :=
  ⟨m.keepsNone h.c0, m.keepsNone h.c1, by rw [m.frozen (lt_of_cell h.c1) (fun h => h)]; exact h.fr, h.rd.modNone m, h.off, h.cap, h.most, h.nocap, h.small, h.le, h.bytes⟩
theorem RdAt.set {w : World} {b : Nat} {A : Option Addr} {n c : Nat} {l : List Nat} {at_ : Nat} (h : RdAt w b A n c l at_) (k : Nat) (v : Int) (hv : v = k) (hk : k ≤ n) : RdAt (w.setCell ⟨b, 1, none⟩ (.int .i64 v)) b A n c l k := by
  subst hv
  have m := Mod.setCell w ⟨b, 1, none⟩ (.int .i64 (k : Int))
  refine ⟨?_, World.cell?_setCell_same _ _ _ h.c1, ?_, ?_, h.off, h.cap, h.most, h.nocap, h.small, hk, h.bytes⟩
  · rw [World.cell?_setCell_other _ _ _ _ (fun e => by injection e with _ e; cases e)]; exact h.c0
  · rw [World.frozen?_setCell]; exact h.fr
  · exact h.rd.mod m (fun a ha e => h.off a ha e)

def Rdr (w : World) (b : Nat) (l : List Nat) (at_ : Nat) : Prop := ∃ A n c, RdAt w b A n c l at_
theorem Rdr.modNone {w w' : World} {b : Nat} {l : List Nat} {at_ : Nat} (h : Rdr w b l at_) (m : Mod none' w w') : Rdr w' b l at_ := by
  obtain ⟨A, n, c, h⟩ := h
  exact ⟨A, n, c, h.mod m⟩
def rptr (b : Nat) : Value := .pointer (some ⟨b, 0, none⟩)

def NewR (w : World) (l : List Nat) (e : Ending) (w' : World) : Prop := ∃ b, e = .returned (rptr b) ∧ w.heap.size ≤ b ∧ b < w'.heap.size ∧ Rdr w' b l 0 ∧ Mod none' w w'

theorem new_rdr {w w1 : World} {A : Option Addr} {l : List Nat} {c : Nat} (ho : Ow 5 w.heap.size w1 (.slice A l.length c) l) (hm : Mod none' w w1) (hb : l.length ≤ 1000000000) (hx : ∀ x ∈ l, x < 256) (t : TypeId) :
    NewR w l (.returned (.pointer (some ⟨w1.heap.size, 0, none⟩))) (w1.alloc (.cells #[.slice A l.length c, .int .i64 0] t)) := by
  obtain ⟨A', c', e, hr, h1, h2, h3, h4⟩ := ho.form
  cases e
  have ma := Mod.alloc none' w1 (.cells #[.slice A l.length c, .int .i64 0] t)
  have hs := hm.size
  refine ⟨w1.heap.size, rfl, hs, by simp, ⟨A, l.length, c, ?_⟩, hm.trans ma⟩
  exact ⟨by simp, by simp, free_of_block (g := w1.heap.size) (cs := #[.slice A l.length c, .int .i64 0]) (t := t) (by show (w1.heap.push _)[w1.heap.size]? = _; simp) 1, hr.modNone ma, (fun a ha => by have := (h3 a ha).2.1; omega), h1, h2, (fun h => (h4 h).2), hb, Nat.zero_le _, hx⟩

set_option maxHeartbeats 400000 in
theorem new_c (A : Option Addr) (n c : Nat) (l : List Nat) (w : World) (h : Rd w A n l) (hn : A = none → n = 0 ∧ c = 0) (hb : l.length ≤ 1000000000) (hx : ∀ x ∈ l, x < 256) :
    Calls Try.prog 15 #[.slice A n c] w (NewR w l) := by
  go_enter Try.func15, Try.ntmps15
  go_wp2_with (go_at_call 33; refine (clone_c _ _ _ _ _ h hn (by omega)).mono ?_; rintro e w1 ⟨v1, rfl, ho, hm⟩; obtain ⟨A1, c1, rfl, -⟩ := ho.form)
  go_ret
  exact new_rdr ho hm hb hx _
end Go.Proofs.Ytedfbmaghleioaa
