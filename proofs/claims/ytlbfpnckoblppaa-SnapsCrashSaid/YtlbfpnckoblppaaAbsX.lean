/- The abstract machine: a deferred function literal, called where its frame returns or panics. No condition. -/
import Derived.Test.YtlbfpnckoblppaaAbs2
import Derived.Recover
set_option linter.unusedVariables false
set_option linter.unusedSimpArgs false
namespace Go.Abs
open Go.RowKit

/-- What a deferred function does to a frame in the mode u, with abstract arguments and the contents of the variables that it is lent. -/
def ADef (P : Program) (f : Nat) (args lent : List AV) (u u' : FrameMode) (lent' : List AV) : Prop :=
  ∀ (X : Ctx) (G : Gh) (w : World) (vals : Array Value), vals.size = args.length → X.w0 = w → X.ds = [] → GlOK P X → Rel X G (sinOf args lent) ⟨vals, []⟩ w →
    CallsD P f vals u w fun e m w' => ∃ v G', e = .returned v ∧ m = u' ∧ Rel X G' (soutOf .undef lent' []) ⟨#[Go.undef], []⟩ w' ∧ (∀ x, x < 2000 → 1000 ≤ x → G'.site x = G.site x) ∧ ∀ x b, 2000 ≤ x → G'.site x = some b → w.heap.size ≤ b

section
variable {P : Program} {X : Ctx} {G : Gh} {s : S} {a : Act} {w : World} {N : Nat}

theorem Rel.ds (h : Rel X G s a w) (D : List Deferred) : Rel { X with ds := D } G s ⟨a.tmps, D⟩ w :=
  ⟨h.tmp, h.mem, h.ownI, h.ownS, h.siteI, h.siteF, h.ownF, h.okS, h.okB, ⟨h.fr.os, h.fr.tape, h.fr.output, h.fr.size, h.fr.block, h.fr.cell⟩, rfl⟩
theorem Rel.putu {d : Nat} {v : Value} (h : Rel X G s a w) (hd : s (.t d) = .undef) : Rel X G s (a.put (some d) v) w := by
  refine ⟨fun t => ?_, h.mem, h.ownI, h.ownS, h.siteI, h.siteF, h.ownF, h.okS, h.okB, h.fr, (put_defers _ _ _).trans h.df⟩
  have ht := h.tmp t
  by_cases htd : t = d
  · subst htd
    rw [hd] at ht ⊢
    exact ⟨ht.1, ht.2⟩
  · rwa [getD_put_other htd]
/-- The content of a variable that a deferred function was lent. -/
def defU (d : Nat) (lent : List Nat) (lent' : List AV) : List (Key × AV) := (Key.t d, .undef) :: (lent.zip lent').map fun (y, a) => (Key.m y, ren1 (backF lent []) a)
/-- A deferred function is called with pointers to the frame's own variables. -/
theorem ADef.call {f : Nat} {args : List AV} {lent : List Nat} {u u' : FrameMode} {lent' : List AV} {vals : Array Value} {d : Nat} (hx : GlOK P X) (hR : Rel X G s a w) (hd : d < a.tmps.size) (hnd : lent.Nodup) (hsm : lent.length ≤ 1000) (hlen : lent'.length = lent.length) (hobj : ∀ a ∈ lent', a.isObj)
    (hsz : vals.size = args.length)
    (hv : ∀ (i : Nat) v av, vals[i]? = some v → args[i]? = some av → V2 (fp (cCtx X G w lent []) (cGh G lent)) (cGh G lent).site w v av) (hagg : ∀ y ∈ lent, (s (.m y)).isObj)
    (hcall : ADef P f args (lent.map fun y => ren1 (inF lent) (s (.m y))) u u' lent') :
    CallsD P f vals u w fun e m w' => ∃ v G', e = .returned v ∧ m = u' ∧ Rel X G' (s.ups (defU d lent lent')) a w' ∧ ∀ x, G'.site x = G.site x := by
  have hin := call_in hR hnd (frz := []) (fun y hy => by cases hy) (args := args) (vals := vals) hsz hv hagg
  refine (hcall _ _ w vals hsz rfl rfl (hx.call hR) hin).mono fun e m w' hh => ?_
  obtain ⟨v, G', rfl, rfl, hR', hs1, hs2⟩ := hh
  have hls : ∀ y ∈ lent, ∃ b, G.site y = some b := fun y hy => by
    have ha := hagg y hy
    have hm := hR.mem y
    generalize s (.m y) = z at ha hm
    cases z <;> simp only [AV.isObj] at ha
    all_goals
      first
        | (obtain ⟨b, _, _, _, hb, _⟩ := hm; exact ⟨b, hb⟩)
        | (obtain ⟨b, _, _, hb, _⟩ := hm; exact ⟨b, hb⟩)
  have hout := call_out hR (d := d) hd (lent := lent) (news := []) (frz := []) (by simpa using hnd) (fun y hy => by cases hy) (fun x hx => by cases hx) hls (r := .undef) (lent' := lent') (newc := []) hlen rfl (fun a ha => Or.inl (hobj a ha)) (fun a ha => by cases ha) (Or.inl rfl) hR' hs1 hs2 hsm
  have hU : ((Key.t d, ren2 (backF lent []) .undef) :: ((lent.zip lent').map fun (y, a) => (Key.m y, ren1 (backF lent []) a)) ++ ((([] : List Nat).zip ([] : List AV)).map fun (y, a) => (Key.m y, ren1 (backF lent []) a))) = defU d lent lent' := by
    unfold defU
    rw [List.zip_nil_left, List.map_nil, List.append_nil]
    rfl
  rw [hU] at hout
  refine ⟨_, _, rfl, rfl, hout.unput ?_, fun x => ?_⟩
  · show (s.ups (defU d lent lent')) (.t d) = .undef
    unfold defU
    simp only [S.ups]
    rw [ups_other fun v hv => by
      obtain ⟨_, _, h⟩ := List.mem_map.1 hv
      cases h]
    exact S.up_same _ _ _
  · simp only [rSite]
    rw [idx_none (by simp)]
/-- All that is known of slots is forgotten; what lies in lent variables is not. -/
theorem Rel.keepm (h : Rel X G s a w) (hds : X.ds = []) {lent' : List AV} (hl : ∀ k c, lent'[k]? = some c → ren1 (outF []) (s (.m (1000 + k))) = c) (hsm : lent'.length ≤ 1000) :
    Rel X ⟨fun x => if 1000 ≤ x ∧ x < 2000 then G.site x else none, fun k j => match k with
      | .t _ => none
      | .m x => if 1000 ≤ x ∧ x < 1000 + lent'.length then G.own (.m x) j else none⟩ (soutOf .undef lent' []) ⟨#[Go.undef], []⟩ w := by
  have hst : ∀ x b, (if 1000 ≤ x ∧ x < 2000 then G.site x else none) = some b → G.site x = some b := fun x b hx => by
    split at hx
    · exact hx
    · cases hx
  have hown : ∀ (k : Key) (j b e : Nat), (match k with
      | .t _ => none
      | .m x => if 1000 ≤ x ∧ x < 1000 + lent'.length then G.own (.m x) j else none) = some (b, e) → G.own k j = some (b, e) := fun k j b e hk => by
    cases k with
    | t i => cases hk
    | m x =>
      simp only at hk
      split at hk
      · exact hk
      · cases hk
  have hsafe : ∀ b o, G.safe b o → Gh.safe ⟨fun x => if 1000 ≤ x ∧ x < 2000 then G.site x else none, fun k j => match k with
      | .t _ => none
      | .m x => if 1000 ≤ x ∧ x < 1000 + lent'.length then G.own (.m x) j else none⟩ b o := fun b o hs => ⟨fun x hx => hs.1 x (hst x b hx), fun k j e he => hs.2 k j e (hown k j _ _ he)⟩
  refine ⟨fun t => ?_, fun x => ?_, fun k j k' j' b e e' h1 h2 => h.ownI _ _ _ _ _ _ _ (hown _ _ _ _ h1) (hown _ _ _ _ h2), fun k j b e x h1 h2 => h.ownS _ _ _ _ x (hown _ _ _ _ h1) (hst x b h2), fun x y b h1 h2 => h.siteI _ _ _ (hst x b h1) (hst y b h2), fun x b h1 => h.siteF x b (hst x b h1), fun k j b e h1 => h.ownF _ _ _ _ (hown _ _ _ _ h1), fun b o ho => hsafe b o (h.okS b o ho), h.okB, h.fr, hds.symm⟩
  · have : soutOf .undef lent' [] (.t t) = .undef := by simp only [soutOf]; split <;> rfl
    rw [this]
    exact VR2.undef _
  · simp only [soutOf]
    by_cases h2 : 2000 ≤ x
    · rw [if_pos h2]
      intro j
      simp only
      rw [if_neg (by omega)]
    · rw [if_neg h2]
      by_cases h1 : 1000 ≤ x
      · rw [if_pos h1, List.getD_eq_getElem?_getD]
        cases hc : lent'[x - 1000]? with
        | none =>
          rw [List.getElem?_eq_none_iff] at hc
          intro j
          simp only
          rw [if_neg (by omega)]
        | some c =>
          have hk : x - 1000 < lent'.length := (List.getElem?_eq_some_iff.1 hc).1
          have hm := h.mem x
          have e1 := hl _ _ hc
          rw [show 1000 + (x - 1000) = x by omega] at e1
          have e2 : (if 1000 ≤ x ∧ x < 2000 then G.site x else none) = G.site x := by rw [if_pos (by omega)]
          have e3 : (fun j => if 1000 ≤ x ∧ x < 1000 + lent'.length then G.own (.m x) j else none) = G.own (.m x) := by funext j; rw [if_pos (by omega)]
          show MR _ _ w c _ _
          rw [e2, e3, ← e1]
          refine MR.ren (fun b o v hf hc => ⟨hf.1, hsafe b o hf.2⟩) (fun x y b hx hb => ?_) hm
          unfold outF at hx
          split at hx
          · split at hx
            · cases hx
              show (if 1000 ≤ x ∧ x < 2000 then G.site x else none) = some b
              rw [if_pos (by omega)]
              exact hb
            · cases hx
          · simp at hx
      · rw [if_neg h1]
        intro j
        simp only
        rw [if_neg (by omega)]
end
end Go.Abs
