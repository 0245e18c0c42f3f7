/- A world's bytes: contracts. -/
import Derived.Test.YtdbbbaaopngbcaaExB2
import Derived.Test.YtdbbbaaopngbcaaViewsP
set_option linter.unusedVariables false
set_option linter.unusedSimpArgs false
namespace Go.Proofs.Ytdbbbaaopngbcaa
open Go.Abs Go.RowKit Go.Ours

structure WLen (w : Wd) : Prop where
  cl : w.cells.length = 16
  ll : w.last.length = 6
theorem wq_len {w : Wd} (h : WLen w) : (wP w).length = 68 := by
  simp [wP, vwP_len, cellsP_len, repsP_len, h.cl, h.ll]
theorem wq_first (w : Wd) : (wP w)[1]? = some (.int .i64 w.first) := rfl
theorem wq_was (w : Wd) : ((wP w).drop 4).take 2 = vwP w.was := by simp [wP, vwP]
theorem wq_cells {w : Wd} (h : WLen w) : ((wP w).drop 6).take 32 = cellsP w.cells := by
  obtain ⟨A, h1, h2, _⟩ := wP_split w
  rw [h1]
  exact mid_part h2 (by rw [cellsP_len, h.cl])
theorem wq_reps {w : Wd} (h : WLen w) : ((wP w).drop 38).take 30 = repsP w.last := by
  obtain ⟨A, h1, h2, _⟩ := wP_split w
  have := mid_part (A := A ++ cellsP w.cells) (B := repsP w.last) (C := []) (a := 38) (b := 30) (by rw [List.length_append, h2, cellsP_len, h.cl]) (by rw [repsP_len, h.ll])
  rw [h1]
  simpa using this
theorem wq_last {w : Wd} (h : WLen w) {k : Nat} {r : Rp} (hr : w.last[k]? = some r) : ∃ A C, wP w = A ++ (rpP r ++ C) ∧ A.length = 38 + k * 5 ∧ ∀ y, wP { w with last := w.last.set k y } = A ++ (rpP y ++ C) := by
  obtain ⟨A, C, h1, h2, h3⟩ := rows_at rpP_len hr
  obtain ⟨B, g1, g2, g3⟩ := wP_split w
  refine ⟨B ++ (cellsP w.cells ++ A), C, ?_, ?_, fun y => ?_⟩
  · rw [g1]
    unfold repsP
    rw [h1]
    simp
  · simp [g2, cellsP_len, h.cl, h2]
    omega
  · have := g3 w.cells (w.last.set k y)
    rw [show ({ w with last := w.last.set k y } : Wd) = { w with cells := w.cells, last := w.last.set k y } from rfl, this]
    unfold repsP
    rw [h3]
    simp
theorem wq_rep {w : Wd} (h : WLen w) {k : Nat} {r : Rp} (hr : w.last[k]? = some r) : ((wP w).drop (38 + k * 5)).take 5 = rpP r := by
  obtain ⟨A, C, h1, h2, _⟩ := wq_last h hr
  rw [h1]
  exact mid_part h2 (rpP_len r)
theorem wq_put {w : Wd} (h : WLen w) {k : Nat} {r : Rp} (hr : w.last[k]? = some r) (y : Rp) : (wP w).take (38 + k * 5) ++ (rpP y ++ (wP w).drop (38 + k * 5 + 5)) = wP { w with last := w.last.set k y } := by
  obtain ⟨A, C, h1, h2, h3⟩ := wq_last h hr
  rw [h3, h1]
  exact mid_put h2 (rpP_len r) (rpP y)
theorem reps_part {l : List Rp} {k : Nat} {r : Rp} (hr : l[k]? = some r) : ((repsP l).drop (k * 5)).take 5 = rpP r := by
  obtain ⟨A, C, h1, h2, _⟩ := rows_at rpP_len hr
  unfold repsP
  rw [h1]
  exact mid_part h2 (rpP_len r)
def repsB : List Rp → List Nat
  | [] => []
  | r :: l => txt (repB r) ++ repsB l
theorem txt_le (t : List Nat) {n : Nat} (h : t.length ≤ n) (hn : n ≤ 10000000000) : (txt t).length ≤ n + 10 := by
  have := packed_len64 t.length (by omega)
  rw [txt, List.length_append]
  omega
theorem repsB_len : ∀ (l : List Rp), (∀ r ∈ l, I64 r.res.2) → (repsB l).length ≤ 24 * l.length
  | [], _ => by simp [repsB]
  | r :: l, h => by
    have ih := repsB_len l fun x hx => h x (List.mem_cons_of_mem _ hx)
    have h1 := txt_le (repB r) (repB_len r (h r List.mem_cons_self)) (by omega)
    rw [repsB, List.length_append, List.length_cons]
    omega
def kvB (L : List Cl) : List Nat := packed (cntK L) ++ putK 0 L
theorem kvB_len (L : List Cl) (hL : L.length = 16) (hr : ∀ x ∈ L, I64 x.2) : (kvB L).length ≤ 186 := by
  have h1 := cntK_le L
  have h2 := putK_len L 0 hr
  have h3 := packed_len64 (cntK L) (by omega)
  rw [kvB, List.length_append]
  omega
structure WIn (w : Wd) : Prop extends WLen w where
  vm : w.view.2 < 65536
  wm : w.was.2 < 65536
  ci : ∀ x ∈ w.cells, I64 x.2
  li : ∀ r ∈ w.last, I64 r.res.2
def hd2 (n : Int) : List Nat := [uw n / 256 % 256, uw n % 256]
def worldB (w : Wd) : List Nat := hd2 w.slot ++ hd2 w.first ++ txt (putV w.view.1 w.view.2) ++ txt (putV w.was.1 w.was.2) ++ txt (kvB w.cells) ++ repsB w.last
theorem exl2 (P : List Rp) (hP : P.length = 6) (hi : ∀ r ∈ P, I64 r.res.2) (q : List PV) (hq : q = repsP P) : ∀ (l : List Rp) (k : Nat) (b : List Nat), P.drop k = l → k ≤ 6 → b.length ≤ 1000 + 24 * k → ∀ (Q : Exit → S → Prop),
   (∀ c d, Q (.exit 2) (mk [(3, .os 5 1 (krows .u8 (b ++ repsB l))), (34, c), (35, d), (36, .pv (.bool false))] [])) →
   LoopW Try.prog [3, 34, 35] [] irExecsPut_L2 (mk [(3, .os 5 1 (krows .u8 b)), (34, .pagg q), (35, .pv (.int .i64 (k : Nat)))] []) Q := by
  intro l
  have hql : q.length = 30 := by rw [hq, repsP_len, hP]
  induction l with
  | nil =>
    intro k b hd hk hb Q hQ
    have hk2 : k = 6 := by
      have := congrArg List.length hd
      simp [hP] at this
      omega
    subst hk2
    rw [repsB, List.append_nil] at hQ
    refine LoopW.go irExecsPut_L2.eq_1 (by simp) ?_
    simp
    exact hQ _ _
  | cons r l ih =>
    intro k b hd hk hb Q hQ
    have hlt : k < 6 := by
      have := congrArg List.length hd
      simp [hP] at this
      omega
    have hx : P[k]? = some r := by
      have := congrArg (·[0]?) hd
      simpa using this
    have hd' : P.drop (k + 1) = l := by
      have := congrArg (List.drop 1) hd
      simpa [List.drop_drop, Nat.add_comm] using this
    have hri := hi r (List.mem_of_getElem? hx)
    have i1 : (k : Int) < 6 := by omega
    have wk : IntKind.i64.wrap ((k : Int) + 1) = (k + 1 : Nat) := by rw [wrap_i64] <;> omega
    have hp := reps_part hx
    rw [← hq] at hp
    have hrl := repB_len r hri
    have htl := txt_le (repB r) hrl (by omega)
    have c1 := putReply_c r hri
    have c2 := putText_c b (repB r) (by omega) (by omega)
    have hn := ih (k + 1) (b ++ txt (repB r)) hd' (by omega) (by rw [List.length_append]; omega) Q (by simpa [repsB, List.append_assoc] using hQ)
    clear hQ
    generalize b ++ txt (repB r) = b2 at *
    generalize repB r = rb at *
    simp only [rpP] at hp c1
    refine LoopW.go irExecsPut_L2.eq_1 (by simp) ?_
    simp [-getElem?_pos, i1, hlt, hql, hp]
    refine CallG.go c1 ?_
    simp
    refine CallG.go c2 ?_
    simp [wk]
    exact hn
theorem wput_c (w : Wd) (h : WIn w) : ACall Try.prog 15 [.pagg (wP w)] [] (.os 5 1 (krows .u8 (worldB w))) [] [] := by
  refine ACall.fn (fn := Try.f15) rfl okExecsPut rfl (by simp) ?_
  simp only [argT, irExecsPut.eq_1]
  have hl := wq_len h.toWLen
  have h0 := wP_slot w
  have h1 := wq_first w
  have h2 := wP_view w
  have h4 := wq_was w
  have h6 := wq_cells h.toWLen
  have h38 := wq_reps h.toWLen
  have u0 := uw_wrap w.slot
  have u1 := uw_wrap w.first
  have p0 := put2_c [] (uw w.slot) (by simp)
  have p1 := put2_c (hd2 w.slot) (uw w.first) (by simp [hd2])
  rw [List.nil_append] at p0
  change ACall _ _ _ _ (.os _ _ (krows .u8 (hd2 w.slot))) _ _ at p0
  change ACall _ _ _ _ (.os _ _ (krows .u8 (hd2 w.slot ++ hd2 w.first))) _ _ at p1
  have v0 := vput_c w.view.1 w.view.2 h.vm
  have v1 := vput_c w.was.1 w.was.2 h.wm
  have k0 := kvPut_c w.cells h.cl h.ci
  change ACall _ _ _ _ (.os _ _ (krows .u8 (kvB w.cells))) _ _ at k0
  have hvl := putV_len w.view.1 w.view.2
  have hwl := putV_len w.was.1 w.was.2
  have hkl := kvB_len w.cells h.cl h.ci
  have l0 : (hd2 w.slot ++ hd2 w.first).length = 4 := by simp [hd2]
  have t0 := txt_le (putV w.view.1 w.view.2) hvl (by omega)
  have t1 := txt_le (putV w.was.1 w.was.2) hwl (by omega)
  have t2 := txt_le (kvB w.cells) hkl (by omega)
  have q0 := putText_c (hd2 w.slot ++ hd2 w.first) (putV w.view.1 w.view.2) (by omega) (by omega)
  have q1 := putText_c (hd2 w.slot ++ hd2 w.first ++ txt (putV w.view.1 w.view.2)) (putV w.was.1 w.was.2) (by rw [List.length_append]; omega) (by omega)
  have q2 := putText_c (hd2 w.slot ++ hd2 w.first ++ txt (putV w.view.1 w.view.2) ++ txt (putV w.was.1 w.was.2)) (kvB w.cells) (by rw [List.length_append, List.length_append]; omega) (by omega)
  have hlp := exl2 w.last h.ll h.li (repsP w.last) rfl w.last 0 (hd2 w.slot ++ hd2 w.first ++ txt (putV w.view.1 w.view.2) ++ txt (putV w.was.1 w.was.2) ++ txt (kvB w.cells)) rfl (by omega) (by rw [List.length_append, List.length_append, List.length_append]; omega)
  unfold worldB
  generalize hd2 w.slot ++ hd2 w.first ++ txt (putV w.view.1 w.view.2) ++ txt (putV w.was.1 w.was.2) ++ txt (kvB w.cells) = b4 at *
  generalize hd2 w.slot ++ hd2 w.first ++ txt (putV w.view.1 w.view.2) ++ txt (putV w.was.1 w.was.2) = b3 at *
  generalize hd2 w.slot ++ hd2 w.first ++ txt (putV w.view.1 w.view.2) = b2 at *
  generalize hd2 w.slot ++ hd2 w.first = b1 at *
  generalize hd2 w.slot = b0 at *
  generalize putV w.view.1 w.view.2 = x0 at *
  generalize putV w.was.1 w.was.2 = x1 at *
  generalize kvB w.cells = x2 at *
  have hvv : (w.view.1, w.view.2) = w.view := rfl
  have hww : (w.was.1, w.was.2) = w.was := rfl
  rw [hvv] at v0
  rw [hww] at v1
  generalize vwP w.view = pv at *
  generalize vwP w.was = pw at *
  generalize cellsP w.cells = pc at *
  generalize repsP w.last = pr at *
  generalize wP w = z at *
  generalize uw w.slot = us at *
  generalize uw w.first = uf at *
  simp [-getElem?_pos, hl, h0, u0]
  refine CallG.go p0 ?_
  simp [-getElem?_pos, hl, h1, u1]
  refine CallG.go p1 ?_
  simp [-getElem?_pos, hl, h2]
  refine CallG.go v0 ?_
  simp [-getElem?_pos, hl, h4]
  refine CallG.go v1 ?_
  simp [-getElem?_pos, hl, h6]
  refine CallG.go k0 ?_
  simp
  refine LoopW.go irExecsPut_L1.eq_1 (by simp) ?_
  simp
  refine CallG.go q0 ?_
  simp
  refine LoopW.go irExecsPut_L1.eq_1 (by simp) ?_
  simp
  refine CallG.go q1 ?_
  simp
  refine LoopW.go irExecsPut_L1.eq_1 (by simp) ?_
  simp
  refine CallG.go q2 ?_
  simp
  refine LoopW.go irExecsPut_L1.eq_1 (by simp) ?_
  simp [-getElem?_pos, hl, h38]
  refine hlp _ fun c d => ?_
  simp
theorem rxl (w : Wd) (h : WIn w) (z : List PV) (hz : z = wP w) : ∀ (l : List Rp) (k : Nat) (b : List Nat), w.last.drop k = l → k ≤ 6 → b.length ≤ 1000 + 24 * k → ∀ (Q : Exit → S → Prop),
   (∀ c d, Q (.exit 0) (mk [(1, .ptr 1 0), (3, .os 5 1 (krows .u8 (b ++ repsB l))), (4, c), (32, d), (33, .pv (.bool false))] [(1, .pagg z)])) →
   LoopW Try.prog [1, 3, 4] [1] irRef15Put_L1 (mk [(1, .ptr 1 0), (3, .os 5 1 (krows .u8 b)), (4, .pv (.int .i64 (k : Nat)))] [(1, .pagg z)]) Q := by
  intro l
  have hl : z.length = 68 := by rw [hz, wq_len h.toWLen]
  induction l with
  | nil =>
    intro k b hd hk hb Q hQ
    have hk2 : k = 6 := by
      have := congrArg List.length hd
      simp [h.ll] at this
      omega
    subst hk2
    rw [repsB, List.append_nil] at hQ
    refine LoopW.go irRef15Put_L1.eq_1 (by simp) ?_
    simp
    exact hQ _ _
  | cons r l ih =>
    intro k b hd hk hb Q hQ
    have hlt : k < 6 := by
      have := congrArg List.length hd
      simp [h.ll] at this
      omega
    have hx : w.last[k]? = some r := by
      have := congrArg (·[0]?) hd
      simpa using this
    have hd' : w.last.drop (k + 1) = l := by
      have := congrArg (List.drop 1) hd
      simpa [List.drop_drop, Nat.add_comm] using this
    have hri := h.li r (List.mem_of_getElem? hx)
    have i1 : (k : Int) < 6 := by omega
    have wk : IntKind.i64.wrap ((k : Int) + 1) = (k + 1 : Nat) := by rw [wrap_i64] <;> omega
    have hp := wq_rep h.toWLen hx
    rw [← hz] at hp
    have i5 : 38 + k * 5 + 5 ≤ 68 := by omega
    have hrl := repB_len r hri
    have htl := txt_le (repB r) hrl (by omega)
    have c1 := refPutReply_c r hri
    have c2 := refText_c (repB r) (by omega)
    have hn := ih (k + 1) (b ++ txt (repB r)) hd' (by omega) (by rw [List.length_append]; omega) Q (by simpa [repsB, List.append_assoc] using hQ)
    clear hQ
    generalize txt (repB r) = tb at *
    generalize repB r = rb at *
    refine LoopW.go irRef15Put_L1.eq_1 (by simp) ?_
    simp [-getElem?_pos, i1, hlt, hl, hp, i5]
    refine CallG.go c1 ?_
    simp
    refine CallG.go c2 ?_
    simp [krows_length, krows_app, wk]
    exact ⟨by omega, hn⟩
theorem refWput_c (w : Wd) (h : WIn w) : ACall Try.prog 17 [.pagg (wP w)] [] (.os 5 1 (krows .u8 (worldB w))) [] [] := by
  refine ACall.fn (fn := Try.f17) rfl okRef15Put rfl (by simp) ?_
  simp only [argT, irRef15Put.eq_1]
  have hl := wq_len h.toWLen
  have h0 := wP_slot w
  have h1 := wq_first w
  have h2 := wP_view w
  have h4 := wq_was w
  have h6 := wq_cells h.toWLen
  have u0 := uw_wrap w.slot
  have u1 := uw_wrap w.first
  have p0 := refFixed2_c (uw w.slot) (uw_lt _)
  have p1 := refFixed2_c (uw w.first) (uw_lt _)
  change ACall _ _ _ _ (.os _ _ (krows .u8 (hd2 w.slot))) _ _ at p0
  change ACall _ _ _ _ (.os _ _ (krows .u8 (hd2 w.first))) _ _ at p1
  have p2 := join_c (hd2 w.slot) (hd2 w.first) (by simp [hd2]) (by simp [hd2])
  have v0 := refPutV_c w.view.1 w.view.2 h.vm
  have v1 := refPutV_c w.was.1 w.was.2 h.wm
  have k0 := refKvPut_c w.cells h.cl h.ci
  change ACall _ _ _ _ (.os _ _ (krows .u8 (kvB w.cells))) _ _ at k0
  have hvl := putV_len w.view.1 w.view.2
  have hwl := putV_len w.was.1 w.was.2
  have hkl := kvB_len w.cells h.cl h.ci
  have l0 : (hd2 w.slot ++ hd2 w.first).length = 4 := by simp [hd2]
  have t0 := txt_le (putV w.view.1 w.view.2) hvl (by omega)
  have t1 := txt_le (putV w.was.1 w.was.2) hwl (by omega)
  have t2 := txt_le (kvB w.cells) hkl (by omega)
  have q0 := refText_c (putV w.view.1 w.view.2) (by omega)
  have q1 := refText_c (putV w.was.1 w.was.2) (by omega)
  have q2 := refText_c (kvB w.cells) (by omega)
  have hlp := rxl w h (wP w) rfl w.last 0 (hd2 w.slot ++ hd2 w.first ++ txt (putV w.view.1 w.view.2) ++ txt (putV w.was.1 w.was.2) ++ txt (kvB w.cells)) rfl (by omega) (by rw [List.length_append, List.length_append, List.length_append]; omega)
  unfold worldB
  have e : ∀ y : List Nat, hd2 w.slot ++ hd2 w.first ++ txt (putV w.view.1 w.view.2) ++ txt (putV w.was.1 w.was.2) ++ txt (kvB w.cells) ++ y = hd2 w.slot ++ hd2 w.first ++ txt (putV w.view.1 w.view.2) ++ txt (putV w.was.1 w.was.2) ++ txt (kvB w.cells) ++ y := fun _ => rfl
  generalize hd2 w.slot ++ hd2 w.first = b1 at *
  generalize hd2 w.slot = b0 at *
  generalize hd2 w.first = b0' at *
  generalize txt (putV w.view.1 w.view.2) = y0 at *
  generalize txt (putV w.was.1 w.was.2) = y1 at *
  generalize txt (kvB w.cells) = y2 at *
  generalize putV w.view.1 w.view.2 = x0 at *
  generalize putV w.was.1 w.was.2 = x1 at *
  generalize kvB w.cells = x2 at *
  have hvv : (w.view.1, w.view.2) = w.view := rfl
  have hww : (w.was.1, w.was.2) = w.was := rfl
  rw [hvv] at v0
  rw [hww] at v1
  generalize vwP w.view = pv at *
  generalize vwP w.was = pw at *
  generalize cellsP w.cells = pc at *
  generalize wP w = z at *
  generalize uw w.slot = us at *
  generalize uw w.first = uf at *
  simp [-getElem?_pos, hl, h0, u0]
  refine CallG.go p0 ?_
  simp [-getElem?_pos, hl, h1, u1]
  refine CallG.go p1 ?_
  simp
  refine CallG.go p2 ?_
  simp [-getElem?_pos, hl, h2]
  refine CallG.go v0 ?_
  simp
  refine CallG.go q0 ?_
  simp [-getElem?_pos, hl, h4, krows_length, krows_app, l0]
  refine ⟨by omega, ?_⟩
  refine CallG.go v1 ?_
  simp
  refine CallG.go q1 ?_
  simp [-getElem?_pos, hl, h6, krows_length, krows_app, l0]
  refine ⟨by omega, ?_⟩
  refine CallG.go k0 ?_
  simp
  refine CallG.go q2 ?_
  simp [krows_length, krows_app, l0]
  refine ⟨by omega, ?_⟩
  simp only [List.append_assoc] at hlp ⊢
  refine hlp _ fun c d => ?_
  simp
end Go.Proofs.Ytdbbbaaopngbcaa
