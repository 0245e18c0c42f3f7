/- Contracts of what was walked by hand: a search through a name, the files' size, a copy of files. No condition. -/
import Derived.Test.YtlbfpnckoblppaaDiskH
import Derived.Test.YtlbfpnckoblppaaAbsY
import Derived.Test.YtlbfpnckoblppaaIrDisk
import Derived.Test.YtlbfpnckoblppaaArgTxt
set_option linter.unusedVariables false
set_option linter.unusedSimpArgs false
namespace Go.Proofs.Ytlbfpnckoblppaa
open Go.Abs Go.RowKit Go.Ours

theorem one_val {vals : Array Value} (h : vals.size = 1) : ∃ v0, vals = #[v0] := by
  obtain ⟨l⟩ := vals
  match l, h with
  | [a], _ => exact ⟨a, rfl⟩
theorem two_val {vals : Array Value} (h : vals.size = 2) : ∃ v0 v1, vals = #[v0, v1] := by
  obtain ⟨l⟩ := vals
  match l, h with
  | [a, b], _ => exact ⟨a, b, rfl⟩
/-- A name of small letters. -/
def small (s : ByteArray) : Prop := ∀ (i : Nat) (h : i < s.size), 97 ≤ (s[i]'h).toNat ∧ (s[i]'h).toNat ≤ 122
theorem indexFunc_c (s : ByteArray) (hs : small s) (hl : s.size ≤ 1000) : ACall Try.prog 54 [.pv (.str s), .fn 55] [] (.pv (.int .i64 (-1))) [] [] := by
  intro X G w vals hsz hw0 hXd hx hR
  obtain ⟨v0, v1, rfl⟩ := two_val hsz
  have h0 := hR.tmp 0
  have h1 := hR.tmp 1
  have e0 : v0 = .string s := by
    have hp : PR (fp X G) w v0 (.str s) := h0.1.1
    cases hp
    rfl
  have e1 : v1 = .func (.func 55) #[] #[] := h1.1.1
  subst e0 e1
  refine (IndexFunc_w s hs hl w).mono fun e w' h => ?_
  obtain ⟨rfl, p, rfl⟩ := h
  have hf := ((hR.forget hXd.1 []).grow (.stringIter s p)).ans (v := .int .i64 (-1)) (r := .pv (.int .i64 (-1))) (V2.mkpv (.int _ _))
  refine ⟨_, _, rfl, hf, fun x h1 h2 => ?_, fun x b h1 h2 => ?_⟩
  · simp only
    rw [if_pos ⟨h2, h1⟩]
  · simp only at h2
    rw [if_neg (by omega)] at h2
    cases h2
/-- Files. -/
abbrev Fs := List (ByteArray × List Nat)
def fcs (F : Fs) : List (List PV × PV) := F.map fun (k, v) => ([.str k], .sl 1 (krows .u8 v))
def total (F : Fs) : Nat := (F.map fun p => p.2.length).sum
theorem sum_vals : ∀ (l : List MapEntry) (F : Fs), l.length = F.length → (∀ (j : Nat) e p, l[j]? = some e → F[j]? = some p → lenV e.val = (p.2.length : Nat)) → (l.map fun e => lenV e.val).sum = ((total F : Nat) : Int)
  | [], [], _, _ => rfl
  | [], _ :: _, h, _ => by simp at h
  | _ :: _, [], h, _ => by simp at h
  | e :: l, p :: F, h, hv => by
    have ih := sum_vals l F (by simpa using h) fun j e' p' h1 h2 => hv (j + 1) e' p' (by simpa using h1) (by simpa using h2)
    have h0 := hv 0 e p rfl rfl
    simp only [List.map_cons, List.sum_cons, total, ih, h0] at *
    simp [total]
theorem size_c (F : Fs) (hl : total F ≤ 1000000000000) : ACall Try.prog 43 [.mp 1000] [.mc false [.s] (fcs F)] (.pv (.int .i64 (total F : Nat))) [.mc false [.s] (fcs F)] [] := by
  intro X G w vals hsz hw0 hXd hx hR
  obtain ⟨v0, rfl⟩ := one_val hsz
  have h0 := hR.tmp 0
  obtain ⟨b, hb, e0⟩ := h0.1.1
  have e0 : v0 = .map (some b) := e0
  subst e0
  have hm := hR.mem 1000
  obtain ⟨b', ents, clk, g1, g2, g3, g4, g5⟩ := hm
  rw [hb] at g1
  cases g1
  obtain ⟨m1, m2⟩ := g3
  have hkey : ∀ (j : Nat) e p, ents[j]? = some e → F[j]? = some p → ∃ A n c, e.val = .slice A n c ∧ n = p.2.length := fun j e p h1 h2 => by
    have := (m2 j e ([.str p.1], .sl 1 (krows .u8 p.2)) h1 (by simp [fcs, h2])).2.2
    obtain ⟨A, cap, hv, _⟩ := this.slInv
    exact ⟨A, _, cap, hv, by rw [krows_length]⟩
  have hlen : ents.size = F.length := by rw [m1]; simp [fcs]
  have hw := size_w b ents clk w g2 g5.1 g5.2 (fun x hx => by
    obtain ⟨j, hj⟩ := List.getElem?_of_mem hx
    have hlt : j < F.length := by rw [← hlen]; have := (List.getElem?_eq_some_iff.1 hj).1; simpa using this
    obtain ⟨A, n, c, hv, _⟩ := hkey j x F[j] (by simpa using hj) (List.getElem?_eq_getElem hlt)
    exact ⟨A, n, c, hv⟩)
  have hsum := sum_vals ents.toList F (by simpa using hlen) (fun j e p h1 h2 => by
    obtain ⟨A, n, c, hv, hn⟩ := hkey j e p (by simpa using h1) h2
    rw [hv, ← hn]
    rfl)
  rw [hsum] at hw
  have hwr : wrap64 ((total F : Nat) : Int) = ((total F : Nat) : Int) := by
    unfold wrap64
    omega
  rw [hwr] at hw
  refine hw.mono fun e w' h => ?_
  obtain ⟨rfl, w1, seen, ⟨ha, ht⟩, rfl⟩ := h
  have hk := hR.keepm hXd.1 (lent' := [.mc false [.s] (fcs F)]) (fun k c hk => by
    match k, hk with
    | 0, hk => cases hk; rfl) (by simp)
  have hf := ((hk.alike ha ht).grow (.mapIter (some b) clk seen clk)).ans (v := .int .i64 (total F : Nat)) (r := .pv (.int .i64 (total F : Nat))) (V2.mkpv (.int _ _))
  refine ⟨_, _, rfl, hf, fun x h1 h2 => ?_, fun x b h1 h2 => ?_⟩
  · simp only
    rw [if_pos ⟨h2, h1⟩]
  · simp only at h2
    rw [if_neg (by omega)] at h2
    cases h2
theorem mclone_c (es : List (List PV × PV)) : ACall Try.prog 38 [.mp 1000] [.mc false [.s] es] (.mp 2000) [.mc false [.s] es] [.mc false [.s] es] := by
  intro X G w vals hsz hw0 hXd hx hR
  obtain ⟨v0, rfl⟩ := one_val hsz
  have h0 := hR.tmp 0
  obtain ⟨b, hb, e0⟩ := h0.1.1
  have e0 : v0 = .map (some b) := e0
  subst e0
  have hm := hR.mem 1000
  obtain ⟨b', ents, clk, g1, g2, g3, g4, g5⟩ := hm
  rw [hb] at g1
  cases g1
  refine (mapsClone_w b ents clk w g2).mono fun e w' h => ?_
  obtain ⟨rfl, rfl⟩ := h
  have hk := hR.keepm hXd.1 (lent' := [.mc false [.s] es]) (fun k c hk => by
    match k, hk with
    | 0, hk => cases hk; rfl) (by simp)
  have hm2 := hk.mem 1000
  obtain ⟨b2, ents2, clk2, k1, k2, k3, k4, k5⟩ := hm2
  have hb2 : b2 = b := by
    have : (if 1000 ≤ 1000 ∧ 1000 < 2000 then G.site 1000 else none) = some b2 := k1
    rw [if_pos (by omega), hb] at this
    cases this
    rfl
  subst hb2
  rw [g2] at k2
  cases k2
  obtain ⟨G', q1, q2, q3⟩ := hk.newMapAt (d := 0) (y := 2000) (by simp) (by simp) rfl k3 k5
  have e : ((soutOf .undef [.mc false [.s] es] []).up (.m 2000) (.mc false [.s] es)).up (.t 0) (.mp 2000) = soutOf (.mp 2000) [.mc false [.s] es] [.mc false [.s] es] := by
    funext k
    cases k with
    | t i =>
      by_cases hi : i = 0
      · subst hi; rw [S.up_same]; simp [soutOf]
      · rw [S.up_other _ _ (by simp [hi]), S.up_other _ _ (by simp)]; simp [soutOf, hi]
    | m x =>
      rw [S.up_other _ _ (by simp)]
      by_cases hx : x = 2000
      · subst hx; rw [S.up_same]; rfl
      · rw [S.up_other _ _ (by simp [hx])]
        simp only [soutOf]
        by_cases h2 : 2000 ≤ x
        · rw [if_pos h2, if_pos h2]
          have : x - 2000 ≠ 0 := by omega
          match h : x - 2000, this with
          | n + 1, _ => simp
        · rw [if_neg h2, if_neg h2]
  rw [e] at q1
  refine ⟨_, G', rfl, q1, fun x h1 h2 => ?_, fun x b h1 h2 => ?_⟩
  · rw [q2 x (by omega)]
    simp only
    rw [if_pos ⟨h2, h1⟩]
  · by_cases hx : x = 2000
    · subst hx
      rw [q3] at h2
      cases h2
      exact Nat.le_refl _
    · rw [q2 x hx] at h2
      simp only at h2
      rw [if_neg (by omega)] at h2
      cases h2
end Go.Proofs.Ytlbfpnckoblppaa
