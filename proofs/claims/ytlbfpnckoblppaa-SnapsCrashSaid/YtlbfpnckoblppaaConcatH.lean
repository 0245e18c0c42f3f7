/- slices.Concat of two slices of bytes: the walk. No condition. -/
import Derived.Test.YtlbfpnckoblppaaLibClone
import Derived.Lib.AppendZerosOnto
import Derived.Lib.Walk
import Derived.Lib.SliceRun
set_option linter.unusedVariables false
set_option linter.unusedSimpArgs false
namespace Go.Proofs.Ytlbfpnckoblppaa
open Go.Abs Go.RowKit Go.Ours

set_option maxHeartbeats 4000000 in
set_option maxRecDepth 100000 in
theorem grow_w (n : Nat) (hn : n ≤ 1000000000) (w : World) : Calls Try.prog 68 #[.slice none 0 0, .int .i64 (n : Nat)] w (RetOw w []) := by
  by_cases h0 : n = 0
  · subst h0
    go_enter Try.func68, Try.ntmps68
    go_wp2
    go_ret
    exact ⟨_, rfl, Ow.nil _ _ _, Mod.refl _ _⟩
  · obtain ⟨i0, hi0, hz, hs, hby⟩ := info_parts byte_info
    have h1 : ¬ ((n : Int) < 0) := by omega
    have h4 : (n : Int) > 0 := by omega
    have hold : (Builtin.firstCells i0.size 0 (.slice none 0 0)).run Try.prog w.drew = .ok ([] : List Value).toArray w.drew := run_firstCells_none w.drew i0.size 0 0 0
    have hrz : ∀ ty, (Builtin.append_ #[22, 3] ty #[.slice none 0 0, .int .i64 (n : Int)]).run Try.prog w =
        .ok (.slice (some ⟨w.heap.size, 0, none⟩) (0 + n) (grownCap w (0 + n) 0 5)) (w.drew.alloc (.cells (([] : List Value).toArray ++ Builtin.zeroCells (Value.int .u8 0).cells n ++ Builtin.zeroCells (Value.int .u8 0).cells (grownCap w (0 + n) 0 5 - (0 + n))) 5)) := fun ty =>
      Lib.run_append_grow_zeros w 22 3 ty 5 i0 (.int .u8 0) .i64 .i64 byte_slice Try.underlying3 hi0 hz none 0 0 [] hold n (by omega) (by omega) (by omega) (by omega) (by rw [hby]; omega) (by rw [hby]; exact growslice_fits (by omega) (by omega))
    have hGn : 0 + n ≤ grownCap w (0 + n) 0 5 := grownCap_ge w _ _ _
    have hGm := grownCap_le_maxLen w (0 + n) 0 5 (by unfold maxLen; omega)
    generalize grownCap w (0 + n) 0 5 = G at *
    have hG63 : G ≤ 9223372036854775807 := by unfold maxLen at hGm; omega
    clear hold
    go_enter Try.func68, Try.ntmps68
    go_wp2_with (at_builtin; refine Lib.wpList_append_run _ rfl _ _ _ _ rfl _ _ rfl rfl _ _ (hrz _) ?_)
    all_goals
      go_ret
      refine ⟨_, rfl, World.ownsRow_made w.drew _ G (Nat.le_refl _) hGm ?_, (Mod.drew _ w).trans (Mod.alloc _ _ _)⟩
      simp only [Array.size_append, size_zeroCells]
      simp
      omega
/-- Two slices' cells. -/
structure Two (w : World) (b o : Nat) (A1 : Option Addr) (n1 c1 : Nat) (A2 : Option Addr) (n2 c2 : Nat) (l1 l2 : List Nat) : Prop where
  c0 : w.cell? ⟨b, o, none⟩ = some (.slice A1 n1 c1)
  c1 : w.cell? ⟨b, o + 1, none⟩ = some (.slice A2 n2 c2)
  r1 : Rd w A1 n1 l1
  r2 : Rd w A2 n2 l2
theorem Two.mod {w w' : World} {b o : Nat} {A1 : Option Addr} {n1 c1 : Nat} {A2 : Option Addr} {n2 c2 : Nat} {l1 l2 : List Nat} (h : Two w b o A1 n1 c1 A2 n2 c2 l1 l2) (m : Mod none' w w') : Two w' b o A1 n1 c1 A2 n2 c2 l1 l2 :=
  ⟨m.keepsNone h.c0, m.keepsNone h.c1, h.r1.modNone m, h.r2.modNone m⟩
/-- Ahead of a round of the second loop. -/
def CR (w : World) (l1 l2 : List Nat) (r k : Value) (w' : World) : Prop :=
  Mod none' w w' ∧ ((k = .int .i64 0 ∧ Ow 5 w.heap.size w' r []) ∨ (k = .int .i64 1 ∧ Ow 5 w.heap.size w' r l1) ∨ (k = .int .i64 2 ∧ Ow 5 w.heap.size w' r (l1 ++ l2)))
set_option maxHeartbeats 4000000 in
set_option maxRecDepth 100000 in
theorem concat_w (b o cap : Nat) (A1 : Option Addr) (n1 c1 : Nat) (A2 : Option Addr) (n2 c2 : Nat) (l1 l2 : List Nat) (w : World) (h : Two w b o A1 n1 c1 A2 n2 c2 l1 l2) (q1 : n1 ≤ 100000000) (q2 : n2 ≤ 100000000) :
    Calls Try.prog 53 #[.slice (some ⟨b, o, none⟩) 2 cap] w (RetOw w (l1 ++ l2)) := by
  have H := Lib.hid h
  have hc0 := h.c0
  have hc1 := h.c1
  have w1 : wrap64 (0 + (n1 : Int)) = (n1 : Int) := by unfold wrap64; omega
  have w2 : wrap64 ((n1 : Int) + (n2 : Int)) = ((n1 + n2 : Nat) : Int) := by unfold wrap64; omega
  have g := fun w => grow_w (n1 + n2) (by omega) w
  have i1 : ¬ ((n1 : Int) < 0) := by omega
  have i2 : ¬ (((n1 + n2 : Nat) : Int) < 0) := by omega
  clear h
  go_enter Try.func53, Try.ntmps53
  go_wp2_with (fail)
  go_loopw [3, 11] (fun s k wr => wr = w ∧ ((k = .int .i64 0 ∧ s = .int .i64 0) ∨ (k = .int .i64 1 ∧ s = .int .i64 n1) ∨ (k = .int .i64 2 ∧ s = .int .i64 (n1 + n2 : Nat)))) (fun _ k _ => 2 - (intOf k).toNat)
  case atStart => exact ⟨rfl, Or.inl ⟨rfl, rfl⟩⟩
  case round =>
    obtain ⟨hw, ⟨rfl, rfl⟩ | ⟨rfl, rfl⟩ | ⟨rfl, rfl⟩⟩ := hrel
    all_goals (have hw' := hw.symm; clear hw; subst hw')
    · go_wp2_with (fail)
      go_roundw
      case rel => exact ⟨trivial, Or.inr (Or.inl ⟨rfl, rfl⟩)⟩
      case measure => decide
    · go_wp2_with (fail)
      go_roundw
      case rel => exact ⟨trivial, Or.inr (Or.inr ⟨rfl, rfl⟩)⟩
      case measure => decide
    · go_wp2_with (go_at_call 68; refine (g _).mono ?_; rintro e w3 ⟨v, rfl, how, hm⟩)
      go_loopw [6, 27] (fun r k wr => CR w l1 l2 r k wr) (fun _ k _ => 2 - (intOf k).toNat)
      case atStart => exact ⟨hm, Or.inl ⟨rfl, how⟩⟩
      case round =>
        obtain ⟨hm2, hk⟩ := hrel
        have T := (H.out).mod hm2
        have t0 := T.c0
        have t1 := T.c1
        have hsz := hm2.size
        rcases hk with ⟨rfl, how2⟩ | ⟨rfl, how2⟩ | ⟨rfl, how2⟩
        · go_wp2_with (at_builtin; refine wpList_app byte_slice byte_info rfl _ _ rfl how2 T.r1 rfl rfl (by simp [T.r1.len]; omega) hsz ?_; intro v1 w1 h1)
          go_roundw
          case rel => exact ⟨h1.still how2 (Nat.le_refl _) hm2, Or.inr (Or.inl ⟨rfl, by simpa using h1.own⟩)⟩
          case measure => decide
        · go_wp2_with (at_builtin; refine wpList_app byte_slice byte_info rfl _ _ rfl how2 T.r2 rfl rfl (by have := T.r1.len; have := T.r2.len; omega) hsz ?_; intro v1 w1 h1)
          go_roundw
          case rel => exact ⟨h1.still how2 (Nat.le_refl _) hm2, Or.inr (Or.inr ⟨rfl, h1.own⟩)⟩
          case measure => decide
        · go_wp2_with (fail)
          go_ret
          exact ⟨_, rfl, how2, hm2⟩
/-- What answers a new slice, as the abstract machine asks. -/
theorem owA (l : List Nat) {args : List AV} {X : Ctx} {G : Gh} {w : World} {vals : Array Value} (hw0 : X.w0 = w) (hXd : X.ds = [] ∧ (([] : List AV) = [] → ∀ b, ¬ X.L b)) (hR : Rel X G (sinOf args []) ⟨vals, []⟩ w) {e : Ending} {w' : World} (h : RetOw w l e w') :
    ∃ v G', e = .returned v ∧ Rel X G' (soutOf (.os 5 1 (krows .u8 l)) [] []) ⟨#[v], []⟩ w' ∧ (∀ x, x < 2000 → 1000 ≤ x → G'.site x = G.site x) ∧ ∀ x b, 2000 ≤ x → G'.site x = some b → w.heap.size ≤ b := by
  obtain ⟨v, rfl, how, hm⟩ := h
  have hfr := Relc hR hm
  have hsz0 : X.w0.heap.size ≤ w.heap.size := by rw [hw0]; exact Nat.le_refl _
  have hpr : ∀ fp' : Nat → Nat → Prop, PRs fp' w' (bcells l) (krows .u8 l).flatten := fun fp' => by
    rw [krows_flat]
    refine ⟨by simp [bcells, kns], fun j v p hv hp => ?_⟩
    simp only [bcells_get, kns_get, Option.map_eq_some_iff] at hv hp
    obtain ⟨x, hx, rfl⟩ := hv
    obtain ⟨y, hy, rfl⟩ := hp
    rw [hx] at hy
    cases hy
    exact .int _ _
  have hrow : ∀ r ∈ krows .u8 l, r.length = 1 := fun r hr => by
    simp only [krows, List.mem_map] at hr
    obtain ⟨x, _, rfl⟩ := hr
    rfl
  have hown : (v = .slice none 0 0 ∧ l = []) ∨ ∃ g cc, v = .slice (some ⟨g, 0, none⟩) l.length cc ∧ w.heap.size ≤ g ∧ g < w'.heap.size := by
    rcases how.2 with ⟨h1, h2⟩ | ⟨g, cap, cur, h1, h2, h3, _⟩
    · exact Or.inl ⟨h1, List.eq_nil_of_length_eq_zero h2⟩
    · exact Or.inr ⟨g, cap, h1, h2, (Array.getElem?_eq_some_iff.1 h3).1⟩
  obtain ⟨og, hog, hg1, hg2⟩ : ∃ og : Option (Nat × Nat), ((v = .slice none 0 0 ∧ og = none) ∨ ∃ g n c, v = .slice (some ⟨g, 0, none⟩) n c ∧ og = some (g, (krows .u8 l).length * 1)) ∧ (∀ g e, og = some (g, e) → w.heap.size ≤ g) ∧ (∀ g e, og = some (g, e) → g < w'.heap.size) := by
    rcases hown with ⟨h1, h2⟩ | ⟨g, cc, h1, h2, h3⟩
    · exact ⟨none, Or.inl ⟨h1, rfl⟩, (fun _ _ h => by cases h), fun _ _ h => by cases h⟩
    · exact ⟨some (g, (krows .u8 l).length * 1), Or.inr ⟨g, _, _, h1, rfl⟩, (fun _ _ h => by cases h; exact h2), fun _ _ h => by cases h; exact h3⟩
  have hsafe : ∀ b o, b < w.heap.size → (∀ x, G.site x ≠ some b) → Gh.safe ⟨fun x => if x < 2000 then G.site x else none, fun k j => if k = .t 0 ∧ j = 0 then og else none⟩ b o := by
    intro b o hb hs
    constructor
    · intro x hx
      simp only at hx
      split at hx
      · exact hs x hx
      · cases hx
    · intro k j e he
      simp only at he
      split at he
      · have := hg1 _ _ he; omega
      · cases he
  refine ⟨v, ⟨fun x => if x < 2000 then G.site x else none, fun k j => if k = .t 0 ∧ j = 0 then og else none⟩, rfl, ⟨fun t => ?_, fun x => ?_, ?_, ?_, ?_, ?_, ?_, fun b o ho => hsafe b o (Nat.lt_of_lt_of_le (hR.okB b o ho) hsz0) (hR.okS b o ho).1, hR.okB, hfr, hXd.1.symm⟩, ?_, ?_⟩
  · by_cases ht : t = 0
    · subst ht
      have q : ∀ fp' : Nat → Nat → Prop, VR2 fp' (fun x => if x < 2000 then G.site x else none) w' v (.os 5 1 (krows .u8 l)) (fun j => if j = 0 then og else none) := fun fp' =>
        ⟨⟨bcells l, ⟨by rw [krows_length]; simpa using how.1, by
            rw [krows_length]
            rcases how.2 with h | ⟨g, cap, cur, h1, h2, h3, h4⟩
            · exact Or.inl h
            · exact Or.inr ⟨g, cap, cur, h1, Nat.zero_le _, h3, h4⟩⟩, hpr _, hrow, by omega, by simpa using hog⟩, fun j hj => if_neg (by omega)⟩
      simpa [soutOf] using q _
    · have : soutOf (.os 5 1 (krows .u8 l)) [] [] (.t t) = .undef := by simp [soutOf, ht]
      rw [this]
      have e : (fun k j => if k = Key.t 0 ∧ j = 0 then og else none) (Key.t t) = fun _ => none := by funext j; simp [ht]
      simp only [e]
      exact VR2.undef _
  · have : soutOf (.os 5 1 (krows .u8 l)) [] [] (.m x) = .undef := by simp [soutOf]
    rw [this]
    intro j
    simp
  · intro k j k' j' b e e' h1 h2
    simp only at h1 h2
    split at h1
    · rename_i q1
      split at h2
      · rename_i q2; exact ⟨q1.1.trans q2.1.symm, q1.2.trans q2.2.symm⟩
      · cases h2
    · cases h1
  · intro k j b e x h1 h2
    simp only at h1 h2
    split at h1
    · split at h2
      · have := (hR.siteF x b h2).1
        have := hg1 _ _ h1
        omega
      · cases h2
    · cases h1
  · intro x y b h1 h2
    simp only at h1 h2
    split at h1
    · split at h2
      · exact hR.siteI x y b h1 h2
      · cases h2
    · cases h1
  · intro x b h1
    simp only at h1
    split at h1
    · obtain ⟨q1, q2⟩ := hR.siteF x b h1
      exact ⟨Nat.lt_of_lt_of_le q1 hm.size, q2⟩
    · cases h1
  · intro k j b e h1
    simp only at h1
    split at h1
    · exact ⟨hg2 _ _ h1, Or.inl (by rw [hw0]; exact hg1 _ _ h1)⟩
    · cases h1
  · intro x h1 h2
    simp [h1]
  · intro x b h1 h2
    simp only at h2
    rw [if_neg (by omega)] at h2
    cases h2
theorem concat_c (l1 l2 : List Nat) (h1 : l1.length ≤ 100000000) (h2 : l2.length ≤ 100000000) : ACall Try.prog 53 [.pv (.sl 1 [[.sl 1 (krows .u8 l1)], [.sl 1 (krows .u8 l2)]])] [] (.os 5 1 (krows .u8 (l1 ++ l2))) [] [] := by
  intro X G w vals hsz hw0 hXd hgl hR
  obtain ⟨v0, rfl⟩ : ∃ v0, vals = #[v0] := by
    match vals, hsz with
    | ⟨[v0]⟩, _ => exact ⟨v0, rfl⟩
  have hv : VR2 (fp X G) G.site w v0 (.pv (.sl 1 [[.sl 1 (krows .u8 l1)], [.sl 1 (krows .u8 l2)]])) (G.own (.t 0)) := hR.tmp 0
  obtain ⟨⟨hp, _⟩, _⟩ := hv
  obtain ⟨A, cap, rfl, _, _, _, hc⟩ := hp.slInv
  obtain ⟨b, o, rfl, _, hc⟩ := hc (by simp)
  obtain ⟨_, u0, d0, p0⟩ := hc 0 _ 0 _ rfl rfl
  obtain ⟨_, u1, d1, p1⟩ := hc 1 _ 0 _ rfl rfl
  obtain ⟨A1, n1, c1, rfl, r1, _⟩ := rd_of_pr p0
  obtain ⟨A2, n2, c2, rfl, r2, _⟩ := rd_of_pr p1
  refine (concat_w b o cap A1 n1 c1 A2 n2 c2 l1 l2 w ⟨by simpa using d0, by simpa using d1, r1, r2⟩ (by rw [← r1.len]; exact h1) (by rw [← r2.len]; exact h2)).mono ?_
  intro e w' h
  exact owA (l1 ++ l2) hw0 hXd hR h
end Go.Proofs.Ytlbfpnckoblppaa
