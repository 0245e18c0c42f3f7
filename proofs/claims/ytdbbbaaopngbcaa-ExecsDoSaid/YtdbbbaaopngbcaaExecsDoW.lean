/- The law ExecsDo. -/
import Derived.Test.YtdbbbaaopngbcaaExecsE
set_option linter.unusedVariables false
set_option linter.unusedSimpArgs false
namespace Go.Proofs.Ytdbbbaaopngbcaa
open Go.Abs Go.RowKit Go.Ours

def nzf (x : Cl) : Cl := if x.1 = true then x else (false, 0)
def nzN (l : List Cl) (k : Nat) : List Cl := (l.take k).map nzf ++ l.drop k
theorem nz_step {l : List Cl} {k : Nat} {x : Cl} (h : l[k]? = some x) : (nzN l k)[k]? = some x ∧ nzN l (k + 1) = (nzN l k).set k (nzf x) := by
  have hlt := (List.getElem?_eq_some_iff.1 h).1
  have htl : ((l.take k).map nzf).length = k := by rw [List.length_map, List.length_take]; omega
  have hd : l.drop k = x :: l.drop (k + 1) := by
    rw [List.drop_eq_getElem_cons hlt, (List.getElem?_eq_some_iff.1 h).2]
  unfold nzN
  constructor
  · rw [List.getElem?_append_right (by omega), htl, Nat.sub_self, hd]
    rfl
  · rw [List.set_append_right _ _ (by omega), htl, Nat.sub_self, hd, List.set_cons_zero, List.take_add_one, h]
    simp
theorem nzN_len (l : List Cl) (k : Nat) : (nzN l k).length = l.length := by simp [nzN]; omega
theorem nzN_nrm (l : List Cl) : ∀ x ∈ nzN l l.length, nrm x := by
  intro x hx
  simp only [nzN, List.take_length, List.drop_length, List.append_nil, List.mem_map] at hx
  obtain ⟨y, _, rfl⟩ := hx
  unfold nrm nzf
  split
  · rename_i h
    rw [h]
    simp
  · simp
theorem wP_len' {w : Wd} (h1 : w.cells.length = 16) (h2 : w.last.length = 6) : (wP w).length = 68 := by
  simp [wP, vwP_len, cellsP_len, repsP_len, h1, h2]
theorem wP_ck {w : Wd} (h1 : w.cells.length = 16) (h2 : w.last.length = 6) : ckAll [.i .i64, .i .i64, .i .i64, .i .u16, .i .i64, .i .u16, .b, .i .i64, .b, .i .i64, .b, .i .i64, .b, .i .i64, .b, .i .i64, .b, .i .i64, .b, .i .i64, .b, .i .i64, .b, .i .i64, .b, .i .i64, .b, .i .i64, .b, .i .i64, .b, .i .i64, .b, .i .i64, .b, .i .i64, .b, .i .i64, .i .i64, .i .i64, .i .i64, .b, .i .i64, .i .i64, .i .i64, .i .i64, .b, .i .i64, .i .i64, .i .i64, .i .i64, .b, .i .i64, .i .i64, .i .i64, .i .i64, .b, .i .i64, .i .i64, .i .i64, .i .i64, .b, .i .i64, .i .i64, .i .i64, .i .i64, .b, .i .i64] (wP w) = true := by
  obtain ⟨s, f, v, u, c, l⟩ := w
  match c, h1, l, h2 with
  | [_, _, _, _, _, _, _, _, _, _, _, _, _, _, _, _], _, [_, _, _, _, _, _], _ => rfl
theorem dol1 (zr : List (List PV)) (w : Wd) (h1 : w.cells.length = 16) (h2 : w.last.length = 6) : ∀ (n k : Nat), k + n = 16 → ∀ (Q : Exit → S → Prop),
   (∀ b c, Q (.exit 0) (mk [(1, .pv (.sl 1 zr)), (2, .ptr 2 0), (20, b), (21, c)] [(2, .pagg (wP { w with cells := nzN w.cells 16 }))])) →
   LoopW Try.prog [1, 2, 20] [2] irLaw15ExecsDo_L1 (mk [(1, .pv (.sl 1 zr)), (2, .ptr 2 0), (20, .pv (.int .i64 (k : Nat)))] [(2, .pagg (wP { w with cells := nzN w.cells k }))]) Q := by
  intro n
  induction n with
  | zero =>
    intro k hk Q hQ
    obtain rfl : k = 16 := by omega
    refine LoopW.go irLaw15ExecsDo_L1.eq_1 (by simp) ?_
    simp
    exact hQ _ _
  | succ n ih =>
    intro k hk Q hQ
    have hn := ih (k + 1) (by omega) Q hQ
    obtain ⟨x, hx⟩ : ∃ x, w.cells[k]? = some x := ⟨_, List.getElem?_eq_getElem (by omega)⟩
    obtain ⟨hg, hs⟩ := nz_step hx
    have i1 : (k : Int) < 16 := by omega
    have i2 : k < 16 := by omega
    have wk : IntKind.i64.wrap ((k : Int) + 1) = (k + 1 : Nat) := by rw [wrap_i64] <;> omega
    have hlen := nzN_len w.cells k
    have hwl : (wP { w with cells := nzN w.cells k }).length = 68 := wP_len' (by simp only; omega) h2
    obtain ⟨g0, _⟩ := wP_cellget (w := { w with cells := nzN w.cells k }) hg
    have hput := wP_cellput (w := { w with cells := nzN w.cells k }) hg (false, 0)
    simp only at hput
    rw [hs] at hn
    have hb : 6 + k * 2 + 2 ≤ 68 := by omega
    have hb2 : 6 + k * 2 < 68 := by omega
    obtain ⟨t, v⟩ := x
    cases t
    · have e : nzf (false, v) = (false, 0) := rfl
      rw [e] at hn
      refine LoopW.go irLaw15ExecsDo_L1.eq_1 (by simp) ?_
      simp [-getElem?_pos, i1, i2, g0, wk, hwl, hb, hb2, hput]
      exact hn
    · have e : nzf (true, v) = (true, v) := rfl
      rw [e, set_same hg] at hn
      refine LoopW.go irLaw15ExecsDo_L1.eq_1 (by simp) ?_
      simp [-getElem?_pos, i1, i2, g0, wk, hwl, hb, hb2]
      exact hn
theorem dol2 (L : List (List Rq)) (hL : L.length ≤ 1000000) (hLl : ∀ l ∈ L, l.length ≤ 10) : ∀ (l : List (List Rq)) (k : Nat), L.drop k = l → k ≤ L.length → ∀ (w : Wd), WOk w → ∀ (Q : Exit → S → Prop),
   (∀ a b c d z z', Q (.exit 2) (mk [(1, a), (2, .ptr 2 0), (6, .ptr 6 0), (36, b), (37, c), (38, d)] [(2, .pagg z), (6, .pagg z')])) →
   LoopW Try.prog [1, 2, 6, 36, 37] [2, 6] irLaw15ExecsDo_L2 (mk [(1, .pv (.sl 1 (bRows L))), (2, .ptr 2 0), (6, .ptr 6 0), (36, .pv (.int .i64 (L.length : Nat))), (37, .pv (.int .i64 (k : Nat)))] [(2, .pagg (wP w)), (6, .pagg (wP w))]) Q := by
  intro l
  induction l with
  | nil =>
    intro k hd hk w hw Q hQ
    have hk2 : k = L.length := by
      have := congrArg List.length hd
      simp at this
      omega
    subst hk2
    refine LoopW.go irLaw15ExecsDo_L2.eq_1 (by simp) ?_
    simp
    exact hQ _ _ _ _ _ _
  | cons r l ih =>
    intro k hd hk w hw Q hQ
    have hlt : k < L.length := by
      have := congrArg List.length hd
      simp at this
      omega
    have hr : L[k]? = some r := by
      have := congrArg (·[0]?) hd
      simpa using this
    have hd' : L.drop (k + 1) = l := by
      have := congrArg (List.drop 1) hd
      simpa [List.drop_drop, Nat.add_comm] using this
    have i1 : (k : Int) < (L.length : Int) := by omega
    have wk : IntKind.i64.wrap ((k : Int) + 1) = (k + 1 : Nat) := by rw [wrap_i64] <;> omega
    have hrl := hLl r (List.mem_of_getElem? hr)
    have hok := execF_ok hw r
    have hn := ih (k + 1) hd' (by omega) (execF w r).1 hok Q hQ
    have c1 := execs_c w hw r (by omega)
    have c2 := refExecs_c w hw r (by omega)
    have hol := execF_out w r
    have c3 := sameR_c (execF w r).2 (by omega)
    have hwl := wP_len hw
    have hwl2 := wP_len hok
    have hck := wP_ck hok.cl hok.ll
    have heq := eqPVs_refl hck
    generalize (execF w r).2 = out at *
    generalize (execF w r).1 = x at *
    have hm1 : List.take 68 (wP x ++ [PV.sl 5 (rpRows out)]) = wP x := by rw [List.take_append_of_le_length (by omega), List.take_of_length_le (by omega)]
    have hm2 : (wP x ++ [PV.sl 5 (rpRows out)])[68]? = some (PV.sl 5 (rpRows out)) := by rw [List.getElem?_append_right (by omega), hwl2]; rfl
    refine LoopW.go irLaw15ExecsDo_L2.eq_1 (by simp) ?_
    simp [-getElem?_pos, i1, hlt, bRows_len, bRows_get, hr, rqRows_len, hwl]
    refine ⟨by omega, ?_⟩
    refine CallG.go c1 ?_
    simp [-getElem?_pos, i1, hlt, bRows_len, bRows_get, hr, rqRows_len, hwl, hwl2]
    refine CallG.go c2 ?_
    simp [-getElem?_pos, hwl2, hm1, hm2, hck, heq]
    refine CallG.go c3 ?_
    simp [-getElem?_pos, hwl2, hm1, hm2, wk, hwl]
    exact hn
theorem lawDo_c (w : Wd) (h1 : w.cells.length = 16) (h2 : w.last.length = 6) (h3 : w.view.2 < 65536) (L : List (List Rq)) (hL : L.length ≤ maxLen) : ACall Try.prog 3 [.pagg (wP w), .pv (.sl 1 (bRows L))] [] (.pv (.bool true)) [] [] := by
  refine ACall.fn (fn := Try.f3) rfl okLaw15ExecsDo rfl (by simp) ?_
  simp only [argT, irLaw15ExecsDo.eq_1]
  have hwl := wP_len' h1 h2
  have cl := long_c L
  have cf := fine_c w
  have hz : nzN w.cells 0 = w.cells := by simp [nzN]
  have hl1 := dol1 (bRows L) w h1 h2 16 0 rfl
  rw [hz] at hl1
  have hw1 : WOk { w with cells := nzN w.cells 16 } := ⟨by simp only [nzN_len]; exact h1, h2, by have := nzN_nrm w.cells; rw [h1] at this; exact this, h3⟩
  have hwl1 := wP_len hw1
  simp
  refine CallG.go wakes_c ?_
  simp
  refine CallG.go cl ?_
  cases hlong : longF L
  · cases hfine : fineF w
    · rw [hfine] at cf
      simp [hwl]
      refine CallG.go cf ?_
      simp
    · rw [hfine] at cf
      simp [hwl]
      refine CallG.go cf ?_
      simp
      have hlen : L.length ≤ 30 ∧ ∀ l ∈ L, l.length ≤ 10 := by
        simp only [longF, Bool.or_eq_false_iff, decide_eq_false_iff_not, List.any_eq_false] at hlong
        refine ⟨by omega, fun l hl => ?_⟩
        have := hlong.2 l hl
        simp at this
        omega
      refine hl1 _ fun b c => ?_
      simp [hwl1, bRows_len]
      refine dol2 L (by omega) hlen.2 L 0 rfl (Nat.zero_le _) _ hw1 _ fun a b c d z z' => ?_
      simp
  · simp
theorem walkExecsDo (c0 : Array Value) (a1 : Option Addr) (l1 c1 : Nat) (w : World) (k0 : Shp.Reads w shW c0.toList) (k1 : Shp.Reads w (.slice (.slice shQ)) [.slice a1 l1 c1]) :
     Calls Try.prog 3 #[.agg c0, .slice a1 l1 c1] w fun e w' => e = .returned (.bool true) ∧ Below w.heap.size w w' := by
  obtain ⟨W, q0, g1, g2, g3⟩ := arg_world k0
  obtain ⟨L, q1, g4, _⟩ := arg_batches k1
  refine lawCalls (lawDo_c W g1 g2 g3 L g4) rfl fun i v av hv ha => ?_
  match i with
  | 0 => cases hv; cases ha; exact q0
  | 1 => cases hv; cases ha; exact q1
  | n + 2 => simp at hv
end Go.Proofs.Ytdbbbaaopngbcaa
