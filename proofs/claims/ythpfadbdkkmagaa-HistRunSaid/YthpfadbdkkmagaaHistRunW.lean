/- The law HistRun. -/
import Derived.Test.YthpfadbdkkmagaaHistG
set_option linter.unusedVariables false
set_option linter.unusedSimpArgs false
namespace Go.Proofs.Ythpfadbdkkmagaa
open Go.Abs Go.RowKit Go.Ours

theorem evs_one (l : List Ev) (e : Ev) : evs l ++ [evP e] = evs (l ++ [e]) := by simp [evs]
structure Ox where
  kd : Int
  ky : Int
  a : Int
  b : Int
def oxP (o : Ox) : List PV := [.int .i64 o.kd, .int .i64 o.ky, .int .i64 o.a, .int .i64 o.b]
def oxs (l : List Ox) : List (List PV) := l.map oxP
theorem oxs_get (l : List Ox) (i : Nat) : (oxs l)[i]? = l[i]?.map oxP := by simp [oxs]
theorem oxs_length (l : List Ox) : (oxs l).length = l.length := by simp [oxs]
/-- How much wider. -/
def wdF (W : List Nat) (k : Nat) : Nat := (W[k]?).getD 0
def evR (W : List Nat) (k : Nat) (now : List Cl) (o : Ox) : Ev := ⟨o.kd, o.ky, o.a, o.b, 1000 + 10 * k - wdF W k, 1001 + 10 * k + wdF W k, true, (doG now o.kd o.ky o.a o.b).2⟩
def runL (W : List Nat) : List Ox → Nat → List Cl → List Ev
  | [], _, _ => []
  | o :: r, k, now => evR W k now o :: runL W r (k + 1) (doG now o.kd o.ky o.a o.b).1
theorem runL_en (W : List Nat) : ∀ (l : List Ox) (k : Nat) (now : List Cl), ∀ x ∈ runL W l k now, (1001 : Int) + 10 * k ≤ x.en
  | [], _, _, x, h => by simp [runL] at h
  | o :: r, k, now, x, h => by
    rcases List.mem_cons.1 h with rfl | h
    · simp [evR]
      omega
    · have := runL_en W r (k + 1) _ x h
      omega
theorem runL_lin (W : List Nat) : ∀ (l : List Ox) (k : Nat) (now : List Cl), LinL (runL W l k now) now
  | [], _, _ => .done _ _ (by simp [runL])
  | o :: r, k, now => by
    refine LinL.step [] (evR W k now o) (runL W r (k + 1) (doG now o.kd o.ky o.a o.b).1) now (fun x hx => ?_) (fun _ => rfl) (runL_lin W r (k + 1) _)
    have := runL_en W r (k + 1) _ x (by simpa using hx)
    have hn : ¬ x.en < (evR W k now o).bg := by
      have hb : (evR W k now o).bg = 1000 + 10 * (k : Int) - (wdF W k : Int) := rfl
      rw [hb]
      omega
    rw [aheadB, decide_eq_false hn, Bool.and_false]
theorem runL_right (W : List Nat) : ∀ (l : List Ox) (k : Nat) (now : List Cl), (∀ o ∈ l, okKv o.kd o.ky = true) → (runL W l k now).all rightE = true
  | [], _, _, _ => rfl
  | o :: r, k, now, h => by
    rw [runL, List.all_cons, runL_right W r (k + 1) _ fun q hq => h q (by simp [hq]), Bool.and_true]
    have hk := h o (by simp)
    have hb : (evR W k now o).bg ≤ (evR W k now o).en := by
      have hb : (evR W k now o).bg = 1000 + 10 * (k : Int) - (wdF W k : Int) := rfl
      have he : (evR W k now o).en = 1001 + 10 * (k : Int) + (wdF W k : Int) := rfl
      rw [hb, he]
      omega
    have hk' : okKv (evR W k now o).kd (evR W k now o).ky = true := hk
    rw [rightE, hk', decide_eq_true hb, Bool.or_true]
    rfl
theorem runL_len (W : List Nat) : ∀ (l : List Ox) (k : Nat) (now : List Cl), (runL W l k now).length = l.length
  | [], _, _ => rfl
  | o :: r, k, now => by simp [runL, runL_len W r]

theorem runl (l : List Ox) (ll : l.length ≤ 10) (W : List Nat) (hW : ∀ x ∈ W, x < 256) (c : List Cl) (hc : c.length = 16) : ∀ (n k : Nat) (now : List Cl) (h : List Ev), k + n = l.length → h.length = k → now.length = 16 → ∀ (Q : Exit → S → Prop),
    ((∀ o ∈ l.drop k, okKv o.kd o.ky = true) → ∀ a b d e f g, Q (.exit 0) (mk [(2, a), (3, .ptr 3 0), (7, .os 40 9 (evs (h ++ runL W (l.drop k) k now))), (8, b), (20, d), (21, e), (22, f), (23, .pv (.bool false))] [(3, .pagg (cellsP c)), (8, g)])) →
    Q .ret (mk [(6, .pv (.bool true))] []) →
    LoopW Try.prog [2, 3, 7, 8, 20, 21, 22] [3, 8] irLaw26HistRun_L1 (mk [(2, .pv (.sl 1 (krows .u8 W))), (3, .ptr 3 0), (7, .os 40 9 (evs h)), (8, .ptr 8 0), (20, .pv (.sl 4 (oxs l))), (21, .pv (.int .i64 (l.length : Nat))), (22, .pv (.int .i64 (k : Nat)))] [(3, .pagg (cellsP c)), (8, .pagg (cellsP now))]) Q := by
  intro n
  induction n with
  | zero =>
    intro k now h hk hh hn Q h1 h2
    obtain rfl : k = l.length := by omega
    have f := h1 (by simp)
    refine LoopW.go irLaw26HistRun_L1.eq_1 (by simp) ?_
    simp [runL] at f ⊢
    exact f _ _ _ _ _ _
  | succ n ih =>
    intro k now h hk hh hn Q h1 h2
    have i1 : k < l.length := by omega
    obtain ⟨o, ho⟩ : ∃ o, l[k]? = some o := ⟨_, List.getElem?_eq_getElem (by omega)⟩
    have w : IntKind.i64.wrap ((k : Int) + 1) = (k + 1 : Nat) := by rw [wrap_i64] <;> omega
    have hd : l.drop k = o :: l.drop (k + 1) := by
      rw [List.drop_eq_getElem_cons i1]
      rw [List.getElem?_eq_getElem i1] at ho
      simp only [Option.some.injEq] at ho
      rw [ho]
    rw [hd] at h1
    refine LoopW.go irLaw26HistRun_L1.eq_1 (by simp) ?_
    by_cases g1 : o.kd < 1
    · simp [-getElem?_pos, i1, oxs_get, oxs_length, ho, oxP, g1]
      exact h2
    · by_cases g2 : 5 < o.kd
      · simp [-getElem?_pos, i1, oxs_get, oxs_length, ho, oxP, g1, g2]
        exact h2
      · by_cases g3 : o.ky < 0
        · simp [-getElem?_pos, i1, oxs_get, oxs_length, ho, oxP, g1, g2, g3]
          exact h2
        · by_cases g4 : 15 < o.ky
          · simp [-getElem?_pos, i1, oxs_get, oxs_length, ho, oxP, g1, g2, g3, g4]
            exact h2
          · have hok : okKv o.kd o.ky = true := by simp [okKv]; omega
            have c2 := refDo_c now hn o.kd o.ky o.a o.b
            have hdl : (doG now o.kd o.ky o.a o.b).1.length = 16 := by rw [doG_len, hn]
            have hd32 := cellsP_take32 hdl
            have hdc : (cellsP (doG now o.kd o.ky o.a o.b).1).length = 32 := by rw [cellsP_len, hdl]
            have hcl : (cellsP now).length = 32 := by rw [cellsP_len, hn]
            have ht32 := cellsP_take32 hn
            have hhl : h.length ≤ 99999999999 := by omega
            have f := ih (k + 1) (doG now o.kd o.ky o.a o.b).1 (h ++ [evR W k now o]) (by omega) (by simp [hh]) hdl Q (fun hr => by
              have := h1 fun q hq => by
                rcases List.mem_cons.1 hq with rfl | hq
                · exact hok
                · exact hr q hq
              rw [runL] at this
              rw [List.append_assoc]
              exact this) h2
            rw [← evs_one] at f
            have w1 : IntKind.i64.wrap (10 * (k : Int)) = 10 * (k : Int) := by rw [wrap_i64] <;> omega
            have w2 : IntKind.i64.wrap (1000 + 10 * (k : Int)) = 1000 + 10 * (k : Int) := by rw [wrap_i64] <;> omega
            have w3 : IntKind.i64.wrap (1001 + 10 * (k : Int)) = 1001 + 10 * (k : Int) := by rw [wrap_i64] <;> omega
            simp only [evR] at f
            generalize (doG now o.kd o.ky o.a o.b).1 = E1 at *
            generalize (doG now o.kd o.ky o.a o.b).2 = E2 at *
            obtain ⟨x1, x2⟩ := E2
            simp [opP] at c2
            simp [evP] at f
            by_cases hw : k < W.length
            · have hw' : (k : Int) < (W.length : Int) := by omega
              obtain ⟨x, hx⟩ : ∃ x, W[k]? = some x := ⟨_, List.getElem?_eq_getElem hw⟩
              have hx256 := hW x (List.mem_of_getElem? hx)
              have hwd : wdF W k = x := by simp [wdF, hx]
              have w4 : IntKind.i64.wrap (x : Int) = x := by rw [wrap_i64] <;> omega
              have w5 : IntKind.i64.wrap (1000 + 10 * (k : Int) - (x : Int)) = 1000 + 10 * (k : Int) - (x : Int) := by rw [wrap_i64] <;> omega
              have w6 : IntKind.i64.wrap (1001 + 10 * (k : Int) + (x : Int)) = 1001 + 10 * (k : Int) + (x : Int) := by rw [wrap_i64] <;> omega
              rw [hwd] at f
              simp [-getElem?_pos, i1, oxs_get, oxs_length, ho, oxP, g1, g2, g3, g4, w1, w2, w3, w4, w5, w6, krows_get, krows_length, hw, hw', hx, hcl, ht32]
              refine CallG.go c2 ?_
              simp [-getElem?_pos, clP, hd32, hdc, hcl, evs_length, hhl, w]
              exact f
            · have hw' : ¬ (k : Int) < (W.length : Int) := by omega
              have hwd : wdF W k = 0 := by simp [wdF, List.getElem?_eq_none (by omega : W.length ≤ k)]
              rw [hwd] at f
              simp at f
              simp [-getElem?_pos, i1, oxs_get, oxs_length, ho, oxP, g1, g2, g3, g4, w1, w2, w3, krows_length, hw, hw', hcl, ht32]
              refine CallG.go c2 ?_
              simp [-getElem?_pos, clP, hd32, hdc, hcl, evs_length, hhl, w]
              exact f
theorem lawRun_c (c : List Cl) (hc : c.length = 16) (l : List Ox) (W : List Nat) (hW : ∀ x ∈ W, x < 256) : ACall Try.prog 4 [.pagg (cellsP c), .pv (.sl 4 (oxs l)), .pv (.sl 1 (krows .u8 W))] [] (.pv (.bool true)) [] [] := by
  refine ACall.fn (fn := Try.f4) rfl okLaw26HistRun rfl (by simp) ?_
  simp only [argT, irLaw26HistRun.eq_1]
  have hcl : (cellsP c).length = 32 := by rw [cellsP_len, hc]
  have ht32 := cellsP_take32 hc
  simp
  refine CallG.go wakes_c ?_
  by_cases h1 : 10 < l.length
  · have h1' : (10 : Int) < (l.length : Int) := by omega
    simp [oxs_length, h1, h1']
  · have h1' : ¬ (10 : Int) < (l.length : Int) := by omega
    have lp := runl l (by omega) W hW c hc l.length 0 c [] (by omega) rfl hc
    rw [List.drop_zero, List.nil_append] at lp
    have e0 : evs [] = [] := rfl
    rw [e0] at lp
    simp [oxs_length, h1, h1', hcl, ht32]
    refine lp _ (fun hok a b d e f g => ?_) ?_
    · obtain ⟨b', c1, hb⟩ := linear_c (runL W l 0 c) c hc (by rw [runL_len]; omega)
      have he : linE (runL W l 0 c) = 0 := by rw [linE, runL_len, if_neg (by omega), if_pos (runL_right W l 0 c hok)]
      have hbt : b' = true := hb.2 ⟨he, (Lin_iff _ _).2 (runL_lin W l 0 c)⟩
      subst hbt
      rw [he] at c1
      simp [hcl, ht32]
      refine CallG.go c1 ?_
      simp
    · simp
theorem ok_ox {ps : List PV} (h : OKs shO ps) : ∃ o : Ox, ps = oxP o := by
  obtain ⟨a, b, c, d, rfl⟩ := ok_o h
  exact ⟨⟨a, b, c, d⟩, rfl⟩
theorem arg_oxs {w : World} {a : Option Addr} {n c : Nat} (h : Shp.Reads w (.slice shO) [.slice a n c]) : ∃ l : List Ox, ArgR w (.slice a n c) (.pv (.sl 4 (oxs l))) ∧ l.length ≤ maxLen := by
  obtain ⟨ps, h1, h2, h3⟩ := pvs_of_reads rfl h
  obtain ⟨es, rfl, hl, he⟩ := h2
  obtain ⟨l, rfl⟩ := ok_rows (fun p => ok_ox) he
  exact ⟨l, ArgR.pv (h1.2 0 _ _ rfl rfl), by simpa using hl⟩
theorem walkHistRun (c0 : Array Value) (a1 : Option Addr) (l1 c1 : Nat) (a2 : Option Addr) (l2 c2 : Nat) (w : World) (k0 : Shp.Reads w (.arr 16 shC) c0.toList) (k1 : Shp.Reads w (.slice shO) [.slice a1 l1 c1]) (k2 : Shp.Reads w (.slice (.int .u8)) [.slice a2 l2 c2]) :
     Calls Try.prog 4 #[.agg c0, .slice a1 l1 c1, .slice a2 l2 c2] w fun e w' => e = .returned (.bool true) ∧ Below w.heap.size w w' := by
  obtain ⟨C, q0, hC⟩ := arg_cells k0
  obtain ⟨l, q1, hl⟩ := arg_oxs k1
  obtain ⟨W, q2, hW, hW2⟩ := arg_sl8 k2
  refine lawCalls (lawRun_c C hC l W hW2) rfl fun i v av hv ha => ?_
  match i with
  | 0 => cases hv; cases ha; exact q0
  | 1 => cases hv; cases ha; exact q1
  | 2 => cases hv; cases ha; exact q2
  | n + 3 => simp at hv
end Go.Proofs.Ythpfadbdkkmagaa
