/- The law ExecsBytes. -/
import Derived.Test.YtdbbbaaopngbcaaExB5
import Derived.Test.YtdbbbaaopngbcaaExecsE
set_option linter.unusedVariables false
set_option linter.unusedSimpArgs false
namespace Go.Proofs.Ytdbbbaaopngbcaa
open Go.Abs Go.RowKit Go.Ours

def fitR (r : Rp) : Bool := decide (0 ≤ r.client ∧ r.client ≤ 255 ∧ 0 ≤ r.seq ∧ r.seq ≤ 255 ∧ 0 ≤ r.slot ∧ r.slot ≤ 255)
def fitC (x : Cl) : Bool := x.1 || decide (x.2 = 0)
def fitsF (w : Wd) : Bool := decide (0 ≤ w.slot ∧ w.slot ≤ 65535 ∧ 0 ≤ w.first ∧ w.first ≤ 65535) && rightV w.view.1 w.view.2 && rightV w.was.1 w.was.2 && w.cells.all fitC && w.last.all fitR
theorem wq_cell {w : Wd} (h : WLen w) {k : Nat} {x : Cl} (hx : w.cells[k]? = some x) : (wP w)[6 + k * 2]? = some (.bool x.1) ∧ (wP w)[6 + k * 2 + 1]? = some (.int .i64 x.2) := by
  obtain ⟨A, h1, h2, _⟩ := wP_split w
  obtain ⟨g1, g2⟩ := cellsP_get hx
  have hk : k < 16 := by
    have := (List.getElem?_eq_some_iff.1 hx).1
    rw [h.cl] at this
    exact this
  have hcl : (cellsP w.cells).length = 32 := by rw [cellsP_len, h.cl]
  rw [h1]
  exact ⟨(mid_get h2 (by omega)).trans g1, by rw [Nat.add_assoc]; exact (mid_get h2 (by omega)).trans g2⟩
theorem ftl1 (w : Wd) (h : WLen w) (z : List PV) (hz : z = wP w) : ∀ (l : List Cl) (k : Nat), w.cells.drop k = l → k ≤ 16 → ∀ (Q : Exit → S → Prop),
   (l.all fitC = true → ∀ c d, Q (.exit 0) (mk [(1, .ptr 1 0), (3, c), (36, d), (37, .pv (.bool false))] [(1, .pagg z)])) →
   (l.all fitC = false → Q .ret (mk [(2, .pv (.bool false))] [])) →
   LoopW Try.prog [1, 3] [1] irRef15Fits_L1 (mk [(1, .ptr 1 0), (3, .pv (.int .i64 (k : Nat)))] [(1, .pagg z)]) Q := by
  intro l
  have hl : z.length = 68 := by rw [hz, wq_len h]
  induction l with
  | nil =>
    intro k hd hk Q h1 h2
    have hk2 : k = 16 := by
      have := congrArg List.length hd
      simp [h.cl] at this
      omega
    subst hk2
    refine LoopW.go irRef15Fits_L1.eq_1 (by simp) ?_
    simp
    exact h1 rfl _ _
  | cons x l ih =>
    intro k hd hk Q h1 h2
    have hlt : k < 16 := by
      have := congrArg List.length hd
      simp [h.cl] at this
      omega
    have hx : w.cells[k]? = some x := by
      have := congrArg (·[0]?) hd
      simpa using this
    have hd' : w.cells.drop (k + 1) = l := by
      have := congrArg (List.drop 1) hd
      simpa [List.drop_drop, Nat.add_comm] using this
    have i1 : (k : Int) < 16 := by omega
    have wk : IntKind.i64.wrap ((k : Int) + 1) = (k + 1 : Nat) := by rw [wrap_i64] <;> omega
    obtain ⟨g1, g2⟩ := wq_cell h hx
    rw [← hz] at g1 g2
    have i5 : 6 + k * 2 < 68 := by omega
    have i6 : 6 + k * 2 + 1 < 68 := by omega
    have hn := ih (k + 1) hd' (by omega) Q
    rw [List.all_cons] at h1 h2
    obtain ⟨t, m⟩ := x
    simp only at g1 g2
    cases t
    · by_cases hm : m = 0
      · subst hm
        refine LoopW.go irRef15Fits_L1.eq_1 (by simp) ?_
        simp [-getElem?_pos, i1, hlt, hl, g1, g2, i5, i6, wk]
        exact hn (fun hh => h1 (by simp [fitC, hh])) (fun hh => h2 (by simp [fitC, hh]))
      · refine LoopW.go irRef15Fits_L1.eq_1 (by simp) ?_
        simp [-getElem?_pos, i1, hlt, hl, g1, g2, i5, i6, wk, hm]
        exact h2 (by simp [fitC, hm])
    · refine LoopW.go irRef15Fits_L1.eq_1 (by simp) ?_
      simp [-getElem?_pos, i1, hlt, hl, g1, g2, i5, i6, wk]
      exact hn (fun hh => h1 (by simp [fitC, hh])) (fun hh => h2 (by simp [fitC, hh]))
theorem ftl2 (w : Wd) (h : WLen w) (z : List PV) (hz : z = wP w) : ∀ (l : List Rp) (k : Nat), w.last.drop k = l → k ≤ 6 → ∀ (Q : Exit → S → Prop),
   (l.all fitR = true → ∀ c d, Q (.exit 2) (mk [(1, .ptr 1 0), (4, c), (54, d), (55, .pv (.bool false))] [(1, .pagg z)])) →
   (l.all fitR = false → Q .ret (mk [(2, .pv (.bool false))] [])) →
   LoopW Try.prog [1, 4] [1] irRef15Fits_L2 (mk [(1, .ptr 1 0), (4, .pv (.int .i64 (k : Nat)))] [(1, .pagg z)]) Q := by
  intro l
  have hl : z.length = 68 := by rw [hz, wq_len h]
  induction l with
  | nil =>
    intro k hd hk Q h1 h2
    have hk2 : k = 6 := by
      have := congrArg List.length hd
      simp [h.ll] at this
      omega
    subst hk2
    refine LoopW.go irRef15Fits_L2.eq_1 (by simp) ?_
    simp
    exact h1 rfl _ _
  | cons r l ih =>
    intro k hd hk Q h1 h2
    have hlt : k < 6 := by
      have := congrArg List.length hd
      simp [h.ll] at this
      omega
    have hx : w.last[k]? = some r := by
      have := congrArg (·[0]?) hd
      simpa using this
    have hd' : w.last.drop (k + 1) = l := by
      have := congrArg (List.drop 1) hd
      simpa [List.drop_drop, Nat.add_comm] using this
    have i1 : (k : Int) < 6 := by omega
    have wk : IntKind.i64.wrap ((k : Int) + 1) = (k + 1 : Nat) := by rw [wrap_i64] <;> omega
    have hp := wq_rep h hx
    rw [← hz] at hp
    have i5 : 38 + k * 5 + 5 ≤ 68 := by omega
    have hn := ih (k + 1) hd' (by omega) Q
    rw [List.all_cons] at h1 h2
    obtain ⟨c, s, t, x⟩ := r
    simp only [rpP] at hp
    have e : ∀ b : Bool, fitR ⟨c, s, t, x⟩ = b → (b = false → l.all fitR = l.all fitR) := fun _ _ _ => rfl
    by_cases g1 : c < 0
    · have g : fitR ⟨c, s, t, x⟩ = false := by simp [fitR]; omega
      rw [g] at h2
      refine LoopW.go irRef15Fits_L2.eq_1 (by simp) ?_
      simp [-getElem?_pos, i1, hlt, hl, hp, i5, g1]
      exact h2 rfl
    · by_cases g2 : 255 < c
      · have g : fitR ⟨c, s, t, x⟩ = false := by simp [fitR]; omega
        rw [g] at h2
        refine LoopW.go irRef15Fits_L2.eq_1 (by simp) ?_
        simp [-getElem?_pos, i1, hlt, hl, hp, i5, g1, g2]
        exact h2 rfl
      · by_cases g3 : s < 0
        · have g : fitR ⟨c, s, t, x⟩ = false := by simp [fitR]; omega
          rw [g] at h2
          refine LoopW.go irRef15Fits_L2.eq_1 (by simp) ?_
          simp [-getElem?_pos, i1, hlt, hl, hp, i5, g1, g2, g3]
          exact h2 rfl
        · by_cases g4 : 255 < s
          · have g : fitR ⟨c, s, t, x⟩ = false := by simp [fitR]; omega
            rw [g] at h2
            refine LoopW.go irRef15Fits_L2.eq_1 (by simp) ?_
            simp [-getElem?_pos, i1, hlt, hl, hp, i5, g1, g2, g3, g4]
            exact h2 rfl
          · by_cases g5 : t < 0
            · have g : fitR ⟨c, s, t, x⟩ = false := by simp [fitR]; omega
              rw [g] at h2
              refine LoopW.go irRef15Fits_L2.eq_1 (by simp) ?_
              simp [-getElem?_pos, i1, hlt, hl, hp, i5, g1, g2, g3, g4, g5]
              exact h2 rfl
            · by_cases g6 : 255 < t
              · have g : fitR ⟨c, s, t, x⟩ = false := by simp [fitR]; omega
                rw [g] at h2
                refine LoopW.go irRef15Fits_L2.eq_1 (by simp) ?_
                simp [-getElem?_pos, i1, hlt, hl, hp, i5, g1, g2, g3, g4, g5, g6]
                exact h2 rfl
              · have g : fitR ⟨c, s, t, x⟩ = true := by simp [fitR]; omega
                rw [g, Bool.true_and] at h1 h2
                refine LoopW.go irRef15Fits_L2.eq_1 (by simp) ?_
                simp [-getElem?_pos, i1, hlt, hl, hp, i5, g1, g2, g3, g4, g5, g6, wk]
                exact hn h1 h2
theorem fits_c (w : Wd) (h : WIn w) : ACall Try.prog 21 [.pagg (wP w)] [] (.pv (.bool (fitsF w))) [] [] := by
  refine ACall.fn (fn := Try.f21) rfl okRef15Fits rfl (by simp) ?_
  simp only [argT, irRef15Fits.eq_1]
  have hl := wq_len h.toWLen
  have h0 := wP_slot w
  have h1 := wq_first w
  have h2 := wP_view w
  have h4 := wq_was w
  have c1 := refRightV_c w.view.1 w.view.2 h.vm
  have c2 := refRightV_c w.was.1 w.was.2 h.wm
  have l1 := ftl1 w h.toWLen (wP w) rfl w.cells 0 rfl (by omega)
  have l2 := ftl2 w h.toWLen (wP w) rfl w.last 0 rfl (by omega)
  have hvw : (w.view.1, w.view.2) = w.view := rfl
  have hww : (w.was.1, w.was.2) = w.was := rfl
  rw [hvw] at c1
  rw [hww] at c2
  unfold fitsF
  generalize rightV w.view.1 w.view.2 = b1 at *
  generalize rightV w.was.1 w.was.2 = b2 at *
  generalize w.cells.all fitC = b3 at *
  generalize w.last.all fitR = b4 at *
  generalize vwP w.view = pv at *
  generalize vwP w.was = pw at *
  generalize wP w = z at *
  generalize w.slot = s at *
  generalize w.first = f at *
  by_cases g1 : s < 0
  · have g1' : ¬ 0 ≤ s := by omega
    simp [-getElem?_pos, hl, h0, g1, g1']
  · have g1' : 0 ≤ s := by omega
    by_cases g2 : 65535 < s
    · have g2' : ¬ s ≤ 65535 := by omega
      simp [-getElem?_pos, hl, h0, g1, g1', g2, g2']
    · have g2' : s ≤ 65535 := by omega
      by_cases g3 : f < 0
      · have g3' : ¬ 0 ≤ f := by omega
        simp [-getElem?_pos, hl, h0, h1, g1, g1', g2, g2', g3, g3']
      · have g3' : 0 ≤ f := by omega
        by_cases g4 : 65535 < f
        · have g4' : ¬ f ≤ 65535 := by omega
          simp [-getElem?_pos, hl, h0, h1, g1, g1', g2, g2', g3, g3', g4, g4']
        · have g4' : f ≤ 65535 := by omega
          cases b1
          · simp [-getElem?_pos, hl, h0, h1, h2, g1, g1', g2, g2', g3, g3', g4, g4']
            refine CallG.go c1 ?_
            simp
          · cases b2
            · simp [-getElem?_pos, hl, h0, h1, h2, g1, g1', g2, g2', g3, g3', g4, g4']
              refine CallG.go c1 ?_
              simp [-getElem?_pos, hl, h4]
              refine CallG.go c2 ?_
              simp
            · simp [-getElem?_pos, hl, h0, h1, h2, g1, g1', g2, g2', g3, g3', g4, g4']
              refine CallG.go c1 ?_
              simp [-getElem?_pos, hl, h4]
              refine CallG.go c2 ?_
              simp
              refine l1 _ (fun hh c d => ?_) fun hh => ?_
              · simp
                refine l2 _ (fun hh2 c d => ?_) fun hh2 => ?_
                · simp [hh, hh2]
                · simp [hh, hh2]
              · simp [hh]
theorem cut_fits (w : Wd) (h : fitsF w = true) : goodW w = true ∧ cutW w = w := by
  simp only [fitsF, Bool.and_eq_true, decide_eq_true_eq, List.all_eq_true] at h
  obtain ⟨⟨⟨⟨h1, h2⟩, h3⟩, h4⟩, h5⟩ := h
  refine ⟨by simp [goodW, h2, h3], ?_⟩
  obtain ⟨s, f, v, u, cl, la⟩ := w
  simp only at h1 h4 h5
  have e1 : ((low s : Nat) : Int) = s := by unfold low uw; omega
  have e2 : ((low f : Nat) : Int) = f := by unfold low uw; omega
  have e3 : cl.map nz = cl := by
    rw [List.map_congr_left (g := id) fun x hx => ?_, List.map_id]
    have := h4 x hx
    obtain ⟨t, m⟩ := x
    cases t
    · simp [fitC] at this
      simp [nz, this]
    · rfl
  have e4 : la.map cutR = la := by
    rw [List.map_congr_left (g := id) fun r hr => ?_, List.map_id]
    have := h5 r hr
    obtain ⟨a, b, c, x⟩ := r
    simp [fitR] at this
    have k : ∀ n : Int, 0 ≤ n → n ≤ 255 → ((lo n : Nat) : Int) = n := fun n h1 h2 => by unfold lo uw; omega
    simp only [cutR, id, k a (by omega) (by omega), k b (by omega) (by omega), k c (by omega) (by omega)]
  simp only [cutW, e1, e2, e3, e4]
theorem ckAll_app : ∀ {a b : List CK} {l m : List PV}, ckAll a l = true → ckAll b m = true → ckAll (a ++ b) (l ++ m) = true
  | [], _, [], _, _, h => h
  | [], _, _ :: _, _, h, _ => by simp [ckAll] at h
  | _ :: _, _, [], _, h, _ => by simp [ckAll] at h
  | c :: a, b, p :: l, m, h1, h2 => by
    simp only [ckAll, Bool.and_eq_true] at h1
    simp only [List.cons_append, ckAll, Bool.and_eq_true]
    exact ⟨h1.1, ckAll_app h1.2 h2⟩
theorem ckAll_map {α : Type} {f : α → List PV} {k : List CK} (hf : ∀ x, ckAll k (f x) = true) : ∀ l : List α, ckAll (List.replicate l.length k).flatten (l.flatMap f) = true
  | [] => rfl
  | x :: l => by
    rw [List.length_cons, List.replicate_succ, List.flatten_cons, List.flatMap_cons]
    exact ckAll_app (hf x) (ckAll_map hf l)
def ckW : List CK := [.i .i64, .i .i64, .i .i64, .i .u16, .i .i64, .i .u16, .b, .i .i64, .b, .i .i64, .b, .i .i64, .b, .i .i64, .b, .i .i64, .b, .i .i64, .b, .i .i64, .b, .i .i64, .b, .i .i64, .b, .i .i64, .b, .i .i64, .b, .i .i64, .b, .i .i64, .b, .i .i64, .b, .i .i64, .b, .i .i64, .i .i64, .i .i64, .i .i64, .b, .i .i64, .i .i64, .i .i64, .i .i64, .b, .i .i64, .i .i64, .i .i64, .i .i64, .b, .i .i64, .i .i64, .i .i64, .i .i64, .b, .i .i64, .i .i64, .i .i64, .i .i64, .b, .i .i64, .i .i64, .i .i64, .i .i64, .b, .i .i64]
theorem wP_ck {w : Wd} (h : WLen w) : ckAll ckW (wP w) = true := by
  have e : ckW = [.i .i64, .i .i64, .i .i64, .i .u16, .i .i64, .i .u16] ++ ((List.replicate 16 [.b, .i .i64]).flatten ++ (List.replicate 6 [.i .i64, .i .i64, .i .i64, .b, .i .i64]).flatten) := by decide
  have e2 : wP w = [.int .i64 w.slot, .int .i64 w.first, .int .i64 w.view.1, .int .u16 (w.view.2 : Nat), .int .i64 w.was.1, .int .u16 (w.was.2 : Nat)] ++ (w.cells.flatMap clP ++ w.last.flatMap rpP) := rfl
  rw [e, e2]
  refine ckAll_app (by simp [ckAll, ckOne]) (ckAll_app ?_ ?_)
  · have := ckAll_map (f := clP) (k := [.b, .i .i64]) (fun x => by simp [clP, ckAll, ckOne]) w.cells
    rwa [h.cl] at this
  · have := ckAll_map (f := rpP) (k := [.i .i64, .i .i64, .i .i64, .b, .i .i64]) (fun x => by simp [rpP, ckAll, ckOne]) w.last
    rwa [h.ll] at this
theorem all_kns (k : IntKind) (l : List Nat) : (kns k l).all (kPV k) = true := by simp [kns, kPV]
theorem lawBytes_c (w : Wd) (h : WIn w) : ACall Try.prog 7 [.pagg (wP w)] [] (.pv (.bool true)) [] [] := by
  refine ACall.fn (fn := Try.f7) rfl okLaw15ExecsBytes rfl (by simp) ?_
  simp only [argT, irLaw15ExecsBytes.eq_1]
  have zw := zero_world
  rw [zw]
  have hk : ([.i .i64, .i .i64, .i .i64, .i .u16, .i .i64, .i .u16, .b, .i .i64, .b, .i .i64, .b, .i .i64, .b, .i .i64, .b, .i .i64, .b, .i .i64, .b, .i .i64, .b, .i .i64, .b, .i .i64, .b, .i .i64, .b, .i .i64, .b, .i .i64, .b, .i .i64, .b, .i .i64, .b, .i .i64, .b, .i .i64, .i .i64, .i .i64, .i .i64, .b, .i .i64, .i .i64, .i .i64, .i .i64, .b, .i .i64, .i .i64, .i .i64, .i .i64, .b, .i .i64, .i .i64, .i .i64, .i .i64, .b, .i .i64, .i .i64, .i .i64, .i .i64, .b, .i .i64, .i .i64, .i .i64, .i .i64, .b, .i .i64] : List CK) = ckW := rfl
  rw [hk]
  have hl := wq_len h.toWLen
  have hck := wP_ck h.toWLen
  have hbl := worldB_len w h
  have hby := worldB_by w h
  have c1 := wput_c w h
  have c2 := refWput_c w h
  have c3 := same_c (worldB w) (worldB w) (by omega)
  rw [decide_eq_true rfl] at c3
  have c4 := digest_c w h hby
  have c5 := refDigest_c w h hby
  have c6 := wget_c w h
  have c7 := fits_c w h
  have hf := cut_fits w
  have hs := shaF_len (worldB w)
  have z0l : (wP W0).length = 68 := wq_len W0_len
  have hak := all_kns .u8 (shaF (worldB w))
  have hkl : (kns .u8 (shaF (worldB w))).length = 32 := by rw [kns_length, hs]
  have hre := eqPVs_refl hck
  have hke : eqPVs (kns .u8 (shaF (worldB w))) (kns .u8 (shaF (worldB w))) = true := by rw [eqPVs_kns]; exact decide_eq_true rfl
  have hxl : (wP (if goodW w then cutW w else W0)).length = 68 := by
    split
    · exact wq_len ⟨by simp [cutW, h.cl], by simp [cutW, h.ll]⟩
    · exact z0l
  cases hfit : fitsF w
  · rw [hfit] at c7
    clear hf
    generalize (if goodW w then cutW w else W0) = x at *
    have he : ∃ e : Int, (if goodW w = true then (0 : Int) else 1) = e := ⟨_, rfl⟩
    obtain ⟨e, he⟩ := he
    rw [he] at c6
    generalize wP x = zx at *
    generalize wP W0 = z0 at *
    generalize worldB w = b at *
    generalize shaF b = d at *
    generalize kns .u8 d = kd at *
    generalize wP w = z at *
    simp
    refine CallG.go wakes_c ?_
    simp [hl]
    refine CallG.go c1 ?_
    simp [hl]
    refine CallG.go c2 ?_
    simp
    refine CallG.go c3 ?_
    simp [hl]
    refine CallG.go c4 ?_
    simp [hl]
    refine CallG.go c5 ?_
    simp [hkl, hak, hke]
    refine CallG.go c6 ?_
    simp [z0l, hxl, hl]
    refine CallG.go c7 ?_
    simp
  · rw [hfit] at c7
    obtain ⟨hg, hc⟩ := hf hfit
    rw [hg, if_pos rfl, if_pos rfl, hc] at c6
    clear hxl
    generalize wP W0 = z0 at *
    generalize worldB w = b at *
    generalize shaF b = d at *
    generalize kns .u8 d = kd at *
    generalize wP w = z at *
    generalize ckW = kw at *
    simp
    refine CallG.go wakes_c ?_
    simp [hl]
    refine CallG.go c1 ?_
    simp [hl]
    refine CallG.go c2 ?_
    simp
    refine CallG.go c3 ?_
    simp [hl]
    refine CallG.go c4 ?_
    simp [hl]
    refine CallG.go c5 ?_
    simp [hkl, hak, hke]
    refine CallG.go c6 ?_
    simp [z0l, hl]
    refine CallG.go c7 ?_
    simp [hl, hck, hre]
theorem ok_i {ps : List PV} (h : OKs (.int .i64) ps) : ∃ n, ps = [.int .i64 n] ∧ I64 n := ok_i64 h
theorem ok_ci {ps : List PV} (h : OKs shC ps) : ∃ x : Cl, I64 x.2 ∧ ps = clP x := by
  obtain ⟨p, q, rfl, h1, h2⟩ := ok_pair h
  obtain ⟨q, r, rfl, h3, h4⟩ := ok_pair h2
  obtain ⟨b, rfl⟩ := h1
  obtain ⟨n, rfl, hn⟩ := ok_i h3
  rw [ok_unit h4]
  exact ⟨(b, n), hn, rfl⟩
theorem ok_ri {ps : List PV} (h : OKs shR ps) : ∃ x : Rp, I64 x.res.2 ∧ ps = rpP x := by
  obtain ⟨p, q, rfl, h1, h⟩ := ok_pair h
  obtain ⟨q, r, rfl, h2, h⟩ := ok_pair h
  obtain ⟨r, t, rfl, h3, h⟩ := ok_pair h
  obtain ⟨t, u, rfl, h4, h5⟩ := ok_pair h
  obtain ⟨a, rfl⟩ := ok_int h1
  obtain ⟨b, rfl⟩ := ok_int h2
  obtain ⟨c, rfl⟩ := ok_int h3
  obtain ⟨x, hx, rfl⟩ := ok_ci h4
  rw [ok_unit h5]
  exact ⟨⟨a, b, c, x⟩, hx, rfl⟩
theorem arg_win {w : World} {c : Array Value} (h : Shp.Reads w shW c.toList) : ∃ W : Wd, ArgR w (.agg c) (.pagg (wP W)) ∧ WIn W := by
  obtain ⟨ps, h1, h2, h3⟩ := pvs_of_reads rfl h
  obtain ⟨p, q, rfl, g1, g⟩ := ok_pair h2
  obtain ⟨q, r, rfl, g2, g⟩ := ok_pair g
  obtain ⟨r, t, rfl, g3, g⟩ := ok_pair g
  obtain ⟨t, u, rfl, g4, g⟩ := ok_pair g
  obtain ⟨u, x, rfl, g5, g⟩ := ok_pair g
  obtain ⟨x, y, rfl, g6, g7⟩ := ok_pair g
  obtain ⟨a, rfl⟩ := ok_int g1
  obtain ⟨b, rfl⟩ := ok_int g2
  obtain ⟨v, hv, rfl⟩ := ok_v g3
  obtain ⟨v2, hv2, rfl⟩ := ok_v g4
  obtain ⟨cl, rfl, hcl, hci⟩ := ok_arr (fun p => ok_ci) g5
  obtain ⟨la, rfl, hla, hli⟩ := ok_arr (fun p => ok_ri) g6
  rw [ok_unit g7] at h1
  refine ⟨⟨a, b, v, v2, cl, la⟩, ArgR.agg ?_, { cl := hcl, ll := hla, vm := hv, wm := hv2, ci := hci, li := hli }⟩
  simpa [wP, cellsP, repsP] using h1
theorem walkExecsBytes (c0 : Array Value) (w : World) (k0 : Shp.Reads w shW c0.toList) :
     Calls Try.prog 7 #[.agg c0] w fun e w' => e = .returned (.bool true) ∧ Below w.heap.size w w' := by
  obtain ⟨W, q0, h⟩ := arg_win k0
  refine lawCalls (lawBytes_c W h) rfl fun i v av hv ha => ?_
  match i with
  | 0 => cases hv; cases ha; exact q0
  | n + 1 => simp at hv
end Go.Proofs.Ytdbbbaaopngbcaa
