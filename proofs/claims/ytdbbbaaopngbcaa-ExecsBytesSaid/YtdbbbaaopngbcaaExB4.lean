/- What a world's bytes tell: contracts. -/
import Derived.Test.YtdbbbaaopngbcaaExB3
set_option linter.unusedVariables false
set_option linter.unusedSimpArgs false
namespace Go.Proofs.Ytdbbbaaopngbcaa
open Go.Abs Go.RowKit Go.Ours

theorem getV_put2 (n : Int) (m : Nat) (hm : m < 65536) : getV (putV n m) = if rightV n m then ((n, m), 0) else ((0, 0), 1) := by
  cases h : rightV n m
  · unfold putV
    rw [h]
    rfl
  · rw [getV_of n m hm h]
    rfl
theorem view_c (b r : List Nat) (n : Int) (m k : Nat) (hm : m < 65536) (hl : b.length ≤ 10000000000) (hk : k ≤ b.length) (hd : b.drop k = txt (putV n m) ++ r) : ACall Try.prog 43 [.ptr 1000 0] [.pagg (rdP b k)] (.tup [.pagg (vwP (if rightV n m then (n, m) else (0, 0))), .pv (.int .i64 (if rightV n m then 0 else 1))]) [.pagg (rdP b (k + (txt (putV n m)).length))] [] := by
  refine ACall.fn (fn := Try.f43) rfl okExecsView rfl (by simp) ?_
  simp only [argT, irExecsView.eq_1]
  have hvl := putV_len n m
  have c1 := textAt_c b r (putV n m) k 1000 hl (by omega) (by omega) hk hd
  have c2 := vget_c (putV n m) (putV_bytes n m) (by omega)
  rw [getV_put2 n m hm] at c2
  have e : (txtR (putV n m)).length = (txt (putV n m)).length := rfl
  rw [e] at c1
  cases h : rightV n m
  · rw [h] at c2
    generalize k + (txt (putV n m)).length = k2 at *
    generalize putV n m = p at *
    generalize rdP b k2 = q2 at *
    generalize rdP b k = q1 at *
    simp [vwP] at c2 ⊢
    refine CallG.go c1 ?_
    simp
    refine CallG.go c2 ?_
    simp
  · rw [h] at c2
    generalize k + (txt (putV n m)).length = k2 at *
    generalize putV n m = p at *
    generalize rdP b k2 = q2 at *
    generalize rdP b k = q1 at *
    simp [vwP] at c2 ⊢
    refine CallG.go c1 ?_
    simp
    refine CallG.go c2 ?_
    simp
def W0 : Wd := ⟨0, 0, (0, 0), (0, 0), List.replicate 16 (false, 0), List.replicate 6 ⟨0, 0, 0, (false, 0)⟩⟩
def low (n : Int) : Nat := uw n % 65536
/-- A world as its bytes tell it. -/
def cutW (w : Wd) : Wd := ⟨(low w.slot : Nat), (low w.first : Nat), w.view, w.was, w.cells.map nz, w.last.map cutR⟩
theorem low_eq (n : Int) : 256 * (uw n / 256 % 256) + uw n % 256 = low n := by unfold low; omega
theorem kvB_get (L : List Cl) (hL : L.length = 16) (hr : ∀ x ∈ L, I64 x.2) : ACall Try.prog 45 [.pv (.sl 1 (krows .u8 (kvB L)))] [] (.tup [.pagg (cellsP (L.map nz)), .pv (.int .i64 0)]) [] [] := kvGet_c L hL hr
def lastUp (w : Wd) (k : Nat) : List Rp := (w.last.take k).map cutR ++ W0.last.drop k
theorem lastUp_next {w : Wd} (h : w.last.length = 6) {k : Nat} {r : Rp} (hx : w.last[k]? = some r) (hk : k < 6) : lastUp w (k + 1) = (lastUp w k).set k (cutR r) ∧ (lastUp w k)[k]? = some ⟨0, 0, 0, (false, 0)⟩ := by
  have hz : W0.last = List.replicate 6 ⟨0, 0, 0, (false, 0)⟩ := rfl
  unfold lastUp
  rw [hz, List.drop_replicate, List.drop_replicate, List.take_add_one, hx]
  have e : 6 - k = (6 - (k + 1)) + 1 := by omega
  rw [e, List.replicate_succ]
  have hl : ((w.last.take k).map cutR).length = k := by simp [h]; omega
  constructor
  · rw [List.set_append_right _ _ (by omega), hl, Nat.sub_self]
    simp
  · rw [List.getElem?_append_right (by omega), hl, Nat.sub_self]
    rfl
theorem lastUp_all {w : Wd} (h : w.last.length = 6) : lastUp w 6 = w.last.map cutR := by
  unfold lastUp
  rw [List.take_of_length_le (by omega)]
  simp [W0]
theorem lastUp_len {w : Wd} (h : w.last.length = 6) {k : Nat} (hk : k ≤ 6) : (lastUp w k).length = 6 := by
  unfold lastUp
  simp [h, W0]
  omega
def midW (w : Wd) (k : Nat) : Wd := { cutW w with last := lastUp w k }
theorem midW_len (w : Wd) (h : WIn w) {k : Nat} (hk : k ≤ 6) : WLen (midW w k) := ⟨by simp [midW, cutW, h.cl], lastUp_len h.ll hk⟩
theorem exl3 (w : Wd) (h : WIn w) (b : List Nat) (hb : b.length ≤ 10000) (z2 : AV) : ∀ (l : List Rp) (k p : Nat), w.last.drop k = l → k ≤ 6 → b.drop p = repsB l → p ≤ b.length → ∀ (Q : Exit → S → Prop),
   (∀ c, Q (.exit 4) (mk [(2, .ptr 2 0), (4, .ptr 20 0), (5, .ptr 5 0), (79, c), (80, .pv (.bool false))] [(2, z2), (5, .pagg (wP (cutW w))), (20, .pagg (rdP b b.length))])) →
   LoopW Try.prog [2, 4, 5, 79] [2, 5, 20] irExecsGet_L3 (mk [(2, .ptr 2 0), (4, .ptr 20 0), (5, .ptr 5 0), (79, .pv (.int .i64 (k : Nat)))] [(2, z2), (5, .pagg (wP (midW w k))), (20, .pagg (rdP b p))]) Q := by
  intro l
  induction l with
  | nil =>
    intro k p hd hk hp hpl Q hQ
    have hk2 : k = 6 := by
      have := congrArg List.length hd
      simp [h.ll] at this
      omega
    subst hk2
    have hp2 : p = b.length := by
      have := congrArg List.length hp
      simp [repsB] at this
      omega
    subst hp2
    have e : midW w 6 = cutW w := by
      unfold midW
      rw [lastUp_all h.ll]
      rfl
    rw [e]
    generalize wP (cutW w) = z at *
    generalize rdP b b.length = rd at *
    refine LoopW.go irExecsGet_L3.eq_1 (by simp) ?_
    simp
    exact hQ _
  | cons r l ih =>
    intro k p hd hk hp hpl Q hQ
    have hlt : k < 6 := by
      have := congrArg List.length hd
      simp [h.ll] at this
      omega
    have hx : w.last[k]? = some r := by
      have := congrArg (·[0]?) hd
      simpa using this
    have hd' : w.last.drop (k + 1) = l := by
      have := congrArg (List.drop 1) hd
      simpa [List.drop_drop, Nat.add_comm] using this
    have hri := h.li r (List.mem_of_getElem? hx)
    have hrl := repB_len r hri
    rw [repsB] at hp
    have c1 := textAt_c b (repsB l) (repB r) p 1000 (by omega) (by omega) (by omega) hpl hp
    have c2 := getReply_c r hri
    have e1 : (txtR (repB r)).length = (txt (repB r)).length := rfl
    rw [e1] at c1
    have hlen := congrArg List.length hp
    rw [List.length_drop, List.length_append] at hlen
    have hp2 : b.drop (p + (txt (repB r)).length) = repsB l := by rw [← List.drop_drop, hp, List.drop_left]
    have hn := ih (k + 1) (p + (txt (repB r)).length) hd' (by omega) hp2 (by omega) Q hQ
    clear hQ
    obtain ⟨g1, g2⟩ := lastUp_next h.ll hx hlt
    have hput := wq_put (midW_len w h hk) (k := k) (r := ⟨0, 0, 0, (false, 0)⟩) g2 (cutR r)
    have hz : ({ midW w k with last := (midW w k).last.set k (cutR r) } : Wd) = midW w (k + 1) := by
      unfold midW
      simp only
      rw [g1]
    rw [hz] at hput
    have hl := wq_len (midW_len w h hk)
    rw [← hput] at hn
    simp only [rpP] at hn c2
    generalize p + (txt (repB r)).length = p2 at *
    generalize repB r = rb at *
    generalize wP (midW w k) = z at *
    generalize rdP b p2 = r2 at *
    generalize rdP b p = r1 at *
    have i1 : (k : Int) < 6 := by omega
    have i5 : 38 + k * 5 + 5 ≤ 68 := by omega
    have wk : IntKind.i64.wrap ((k : Int) + 1) = (k + 1 : Nat) := by rw [wrap_i64] <;> omega
    refine LoopW.go irExecsGet_L3.eq_1 (by simp) ?_
    simp [i1, hlt]
    refine CallG.go c1 ?_
    simp
    refine CallG.go c2 ?_
    simp [i1, hlt, hl, i5, wk]
    exact hn
end Go.Proofs.Ytdbbbaaopngbcaa
