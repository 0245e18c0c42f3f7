/- slices.Clone of bytes, as the abstract machine asks. -/
import Derived.Test.YtlbfpnckoblppaaNumsA
import Derived.Test.YtlbfpnckoblppaaAbs2
set_option linter.unusedVariables false
set_option linter.unusedSimpArgs false
namespace Go.Proofs.Ytlbfpnckoblppaa
open Go.Abs Go.RowKit Go.Ours

theorem pr_int {fp : Nat → Nat → Prop} {w : World} {v : Value} {k : IntKind} {n : Int} (h : PR fp w v (.int k n)) : v = .int k n := by cases h; rfl
theorem krows_flat (k : IntKind) (l : List Nat) : (krows k l).flatten = kns k l := by
  induction l with
  | nil => rfl
  | cons a r ih => simp [krows, kns] at *; exact ih
theorem rd_of_pr {fp : Nat → Nat → Prop} {w : World} {v : Value} {l : List Nat} (h : PR fp w v (.sl 1 (krows .u8 l))) : ∃ A n c, v = .slice A n c ∧ Rd w A n l ∧ (A = none → n = 0 ∧ c = 0) := by
  generalize hq : PV.sl 1 (krows .u8 l) = p at h
  cases h with
  | bool b => cases hq
  | int k n => cases hq
  | str s => cases hq
  | nilp => cases hq
  | nilm => cases hq
  | sl0 A c sz h1 h2 =>
    simp only [PV.sl.injEq] at hq
    have hl : l = [] := List.eq_nil_of_length_eq_zero (by have := congrArg List.length hq.2; simpa [krows] using this)
    subst hl
    exact ⟨A, 0, c, rfl, Rd.nil _ _, fun e => ⟨rfl, h2 e⟩⟩
  | sl b o c sz es f h1 h2 h3 h4 h5 =>
    simp only [PV.sl.injEq] at hq
    obtain ⟨rfl, rfl⟩ := hq
    refine ⟨_, _, _, rfl, ⟨(krows_length _ _).symm, fun hn => ⟨b, o, rfl, fun i v hv => ?_⟩⟩, fun e => by cases e⟩
    simp only [bcells_get, Option.map_eq_some_iff] at hv
    obtain ⟨x, hx, rfl⟩ := hv
    have hr : (krows .u8 l)[i]? = some [.int .u8 (x : Int)] := by rw [krows_get, hx]; rfl
    obtain ⟨_, hc⟩ := h4 i _ 0 hr (by omega)
    have hp := h5 i _ 0 _ hr rfl
    simp only [Nat.mul_one, Nat.add_zero] at hc
    rw [hc, pr_int hp]
    rfl
theorem Relc {X : Ctx} {G : Gh} {s : S} {a : Act} {w w' : World} (h : Rel X G s a w) (hm : Mod none' w w') : Abs.Frame X w' := by
  refine ⟨hm.os.trans h.fr.os, hm.tape.trans h.fr.tape, hm.output.trans h.fr.output, Nat.le_trans h.fr.size hm.size, fun b hb hl => ?_, fun b o ho => ?_⟩
  · exact (hm.block b (Nat.lt_of_lt_of_le hb h.fr.size) (fun h => h)).trans (h.fr.block b hb hl)
  · have hb := Nat.lt_of_lt_of_le (h.okB b o ho) h.fr.size
    exact (World.cell?_of_block (a := ⟨b, o, none⟩) (hm.block b hb (fun h => h))).trans (h.fr.cell b o ho)
theorem cloneA (l : List Nat) (hl : l.length ≤ 10000000000) : ACall Try.prog 26 [.pv (.sl 1 (krows .u8 l))] [] (.os 5 1 (krows .u8 l)) [] [] := by
  intro X G w vals hsz hw0 hXd hgl hR
  obtain ⟨v0, rfl⟩ : ∃ v0, vals = #[v0] := by
    match vals, hsz with
    | ⟨[v0]⟩, _ => exact ⟨v0, rfl⟩
  have hv : VR2 (fp X G) G.site w v0 (.pv (.sl 1 (krows .u8 l))) (G.own (.t 0)) := hR.tmp 0
  obtain ⟨⟨hp, ho0⟩, ho1⟩ := hv
  obtain ⟨A, n, c, rfl, hrd, hn⟩ := rd_of_pr hp
  refine (clone_c A n c l w hrd hn hl).mono ?_
  rintro e w' ⟨v, rfl, how, hm⟩
  have hfr := Relc hR hm
  have hsz0 : X.w0.heap.size ≤ w.heap.size := by rw [hw0]; exact Nat.le_refl _
  have hpr : ∀ fp' : Nat → Nat → Prop, PRs fp' w' (bcells l) (krows .u8 l).flatten := fun fp' => by
    rw [krows_flat]
    refine ⟨by simp [bcells, kns], fun j v p hv hp => ?_⟩
    simp only [bcells_get, kns_get, Option.map_eq_some_iff] at hv hp
    obtain ⟨x, hx, rfl⟩ := hv
    obtain ⟨y, hy, rfl⟩ := hp
    rw [hx] at hy
    cases hy
    exact .int _ _
  have hrow : ∀ r ∈ krows .u8 l, r.length = 1 := fun r hr => by
    simp only [krows, List.mem_map] at hr
    obtain ⟨x, _, rfl⟩ := hr
    rfl
  have hown : (v = .slice none 0 0 ∧ l = []) ∨ ∃ g cc, v = .slice (some ⟨g, 0, none⟩) l.length cc ∧ w.heap.size ≤ g ∧ g < w'.heap.size := by
    rcases how.2 with ⟨h1, h2⟩ | ⟨g, cap, cur, h1, h2, h3, _⟩
    · exact Or.inl ⟨h1, List.eq_nil_of_length_eq_zero h2⟩
    · exact Or.inr ⟨g, cap, h1, h2, (Array.getElem?_eq_some_iff.1 h3).1⟩
  obtain ⟨og, hog, hg1, hg2⟩ : ∃ og : Option (Nat × Nat), ((v = .slice none 0 0 ∧ og = none) ∨ ∃ g n c, v = .slice (some ⟨g, 0, none⟩) n c ∧ og = some (g, (krows .u8 l).length * 1)) ∧ (∀ g e, og = some (g, e) → w.heap.size ≤ g) ∧ (∀ g e, og = some (g, e) → g < w'.heap.size) := by
    rcases hown with ⟨h1, h2⟩ | ⟨g, cc, h1, h2, h3⟩
    · exact ⟨none, Or.inl ⟨h1, rfl⟩, (fun _ _ h => by cases h), fun _ _ h => by cases h⟩
    · exact ⟨some (g, (krows .u8 l).length * 1), Or.inr ⟨g, _, _, h1, rfl⟩, (fun _ _ h => by cases h; exact h2), fun _ _ h => by cases h; exact h3⟩
  have hsafe : ∀ b o, b < w.heap.size → (∀ x, G.site x ≠ some b) → Gh.safe ⟨fun x => if x < 2000 then G.site x else none, fun k j => if k = .t 0 ∧ j = 0 then og else none⟩ b o := by
    intro b o hb hs
    constructor
    · intro x hx
      simp only at hx
      split at hx
      · exact hs x hx
      · cases hx
    · intro k j e he
      simp only at he
      split at he
      · have := hg1 _ _ he; omega
      · cases he
  refine ⟨v, ⟨fun x => if x < 2000 then G.site x else none, fun k j => if k = .t 0 ∧ j = 0 then og else none⟩, rfl, ⟨fun t => ?_, fun x => ?_, ?_, ?_, ?_, ?_, ?_, fun b o ho => hsafe b o (Nat.lt_of_lt_of_le (hR.okB b o ho) hsz0) (hR.okS b o ho).1, hR.okB, hfr, hXd.1.symm⟩, ?_, ?_⟩
  · by_cases ht : t = 0
    · subst ht
      have q : ∀ fp' : Nat → Nat → Prop, VR2 fp' (fun x => if x < 2000 then G.site x else none) w' v (.os 5 1 (krows .u8 l)) (fun j => if j = 0 then og else none) := fun fp' =>
        ⟨⟨bcells l, ⟨by rw [krows_length]; simpa using how.1, by
            rw [krows_length]
            rcases how.2 with h | ⟨g, cap, cur, h1, h2, h3, h4⟩
            · exact Or.inl h
            · exact Or.inr ⟨g, cap, cur, h1, Nat.zero_le _, h3, h4⟩⟩, hpr _, hrow, by omega, by simpa using hog⟩, fun j hj => if_neg (by omega)⟩
      simpa [soutOf] using q _
    · have : soutOf (.os 5 1 (krows .u8 l)) [] [] (.t t) = .undef := by simp [soutOf, ht]
      rw [this]
      have e : (fun k j => if k = Key.t 0 ∧ j = 0 then og else none) (Key.t t) = fun _ => none := by funext j; simp [ht]
      simp only [e]
      exact VR2.undef _
  · have : soutOf (.os 5 1 (krows .u8 l)) [] [] (.m x) = .undef := by simp [soutOf]
    rw [this]
    intro j
    simp
  · intro k j k' j' b e e' h1 h2
    simp only at h1 h2
    split at h1
    · rename_i q1
      split at h2
      · rename_i q2; exact ⟨q1.1.trans q2.1.symm, q1.2.trans q2.2.symm⟩
      · cases h2
    · cases h1
  · intro k j b e x h1 h2
    simp only at h1 h2
    split at h1
    · split at h2
      · have := (hR.siteF x b h2).1
        have := hg1 _ _ h1
        omega
      · cases h2
    · cases h1
  · intro x y b h1 h2
    simp only at h1 h2
    split at h1
    · split at h2
      · exact hR.siteI x y b h1 h2
      · cases h2
    · cases h1
  · intro x b h1
    simp only at h1
    split at h1
    · obtain ⟨q1, q2⟩ := hR.siteF x b h1
      exact ⟨Nat.lt_of_lt_of_le q1 hm.size, q2⟩
    · cases h1
  · intro k j b e h1
    simp only at h1
    split at h1
    · exact ⟨hg2 _ _ h1, Or.inl (by rw [hw0]; exact hg1 _ _ h1)⟩
    · cases h1
  · intro x h1 h2
    simp [h1]
  · intro x b h1 h2
    simp only at h2
    rw [if_neg (by omega)] at h2
    cases h2
end Go.Proofs.Ytlbfpnckoblppaa
