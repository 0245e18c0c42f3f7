/- The abstract machine: code, its weakest precondition, and that the model's code does what it says. No condition. -/
import Derived.Test.YtgnajpfackfcaaaAbsQ
set_option linter.unusedVariables false
set_option linter.unusedSimpArgs false
namespace Go.Abs
open Go.RowKit

inductive IR where
  | skip
  | region (ops : List GOp)
  | seq (a b : IR)
  | cond (c : Opd) (a b : IR)
  | block (id : Nat) (a : IR)
  | loop (a : IR)
  | exit (id : Nat)
  | ret
  | scope (a : IR)
  | kill (ts ms : List Nat) (a : IR)

def IOp.alls (ops : List GOp) : List Nat := ops.flatMap (·.1.makes)

def pur0 (xs : List Nat) : AV → AV
  | .ptr x o => if x ∈ xs then .undef else .ptr x o
  | .sr x o n sz => if x ∈ xs then .undef else .sr x o n sz
  | .agg _ => .undef
  | .tup _ => .undef
  | a => a
def pur1 (xs : List Nat) : AV → AV
  | .agg l => .agg (l.map (pur0 xs))
  | a => pur0 xs a
def pur2 (xs : List Nat) : AV → AV
  | .tup l => .tup (l.map (pur1 xs))
  | a => pur1 xs a
/-- Variables that are made anew are forgotten first. -/
def purgeS (xs : List Nat) (s : S) : S := fun k => match k with
  | .t n => pur2 xs (s (.t n))
  | .m x => if x ∈ xs then .undef else pur1 xs (s (.m x))
/-- Only some slots and variables are kept in mind. -/
def killS (ts ms : List Nat) (s : S) : S := fun k => match k with
  | .t n => if n ∈ ts then s (.t n) else .undef
  | .m x => if x ∈ ms then s (.m x) else .undef

def thenA (next : S → Prop) (Q : Exit → S → Prop) : Exit → S → Prop
  | .normal, s => next s
  | e, s => Q e s
def blockA (id : Nat) (Q : Exit → S → Prop) : Exit → S → Prop
  | .exit id', s => if id' = id then Q .normal s else Q (.exit id') s
  | e, s => Q e s

def iwp (P : Program) : IR → S → (Exit → S → Prop) → Prop
  | .skip, s, Q => Q .normal s
  | .region ops, s, Q => wpI P ops (match IOp.alls ops with
    | [] => s
    | xs => purgeS xs s) (Q .normal)
  | .seq a b, s, Q => iwp P a s (thenA (fun s' => iwp P b s' Q) Q)
  | .cond c a b, s, Q => match ev s c with
    | .pv (.bool t) => (t = true → iwp P a s Q) ∧ (t = false → iwp P b s Q)
    | _ => False
  | .block id a, s, Q => iwp P a s (blockA id Q)
  | .loop a, s, Q => ∀ R : S → Prop, (∀ s, iwp P a s (thenA R Q) → R s) → R s
  | .exit id, s, Q => Q (.exit id) s
  | .ret, s, Q => Q .ret s
  | .scope a, s, Q => iwp P a s Q
  | .kill ts ms a, s, Q => iwp P a (killS ts ms s) Q

theorem thenA_mono {n n' : S → Prop} {Q Q' : Exit → S → Prop} (hn : ∀ s, n s → n' s) (hq : ∀ e s, Q e s → Q' e s) : ∀ e s, thenA n Q e s → thenA n' Q' e s := by
  intro e s h
  cases e <;> first | exact hn _ h | exact hq _ _ h

theorem iwp_mono {P : Program} {ir : IR} : ∀ {s : S} {Q Q' : Exit → S → Prop}, (∀ e s, Q e s → Q' e s) → iwp P ir s Q → iwp P ir s Q' := by
  induction ir with
  | skip => intro s Q Q' h hh; exact h _ _ hh
  | region ops => intro s Q Q' h hh; exact wpI_mono (h _) hh
  | seq a b iha ihb => intro s Q Q' h hh; exact iha (thenA_mono (fun s hs => ihb h hs) h) hh
  | cond c a b iha ihb =>
    intro s Q Q' h hh
    simp only [iwp] at hh ⊢
    split at hh
    · rename_i t ht
      exact ⟨fun q => iha h (hh.1 q), fun q => ihb h (hh.2 q)⟩
    · exact hh.elim
  | block id a iha =>
    intro s Q Q' h hh
    refine iha (fun e s hs => ?_) hh
    cases e
    case exit id' =>
      simp only [blockA] at hs ⊢
      split
      · rename_i q; rw [if_pos q] at hs; exact h _ _ hs
      · rename_i q; rw [if_neg q] at hs; exact h _ _ hs
    all_goals exact h _ _ hs
  | loop a iha => intro s Q Q' h hh R hR; exact hh R fun s hs => hR s (iha (thenA_mono (fun _ h => h) h) hs)
  | exit id => intro s Q Q' h hh; exact h _ _ hh
  | ret => intro s Q Q' h hh; exact h _ _ hh
  | scope a iha => intro s Q Q' h hh; exact iha h hh
  | kill ts ms a iha => intro s Q Q' h hh; exact iha h hh

/-- A round of a loop. -/
theorem iwp_loop {P : Program} {a : IR} {s : S} {Q : Exit → S → Prop} (h : iwp P a s (thenA (fun s' => iwp P (.loop a) s' Q) Q)) : iwp P (.loop a) s Q := by
  intro R hR
  exact hR s (iwp_mono (thenA_mono (fun s' hs => hs R hR) fun _ _ h => h) h)

section
variable {fp : Nat → Nat → Prop} {site site' : Nat → Option Nat} {w : World} {v : Value} {xs : List Nat}
theorem VR0.pur (hs : ∀ x b, x ∉ xs → site x = some b → site' x = some b) {a : AV} {ow : Option (Nat × Nat)} (hv : VR0 fp site w v a ow) : VR0 fp site' w v (pur0 xs a) ow := by
  cases a with
  | ptr x o =>
    obtain ⟨⟨b, h1, h2⟩, h3⟩ := hv
    simp only [pur0]
    split
    · exact h3
    · rename_i hx; exact ⟨⟨b, hs x b hx h1, h2⟩, h3⟩
  | sr x o n sz =>
    obtain ⟨⟨b, c, h1, h2⟩, h3⟩ := hv
    simp only [pur0]
    split
    · exact h3
    · rename_i hx; exact ⟨⟨b, c, hs x b hx h1, h2⟩, h3⟩
  | agg l => exact hv.elim
  | tup l => exact hv.elim
  | undef => exact hv
  | none => exact hv
  | pv p => exact hv
  | os e sz es => exact hv
  | rp l => exact hv
  | fn g => exact hv
  | pagg l => exact hv.elim
theorem VR1.pur (hs : ∀ x b, x ∉ xs → site x = some b → site' x = some b) {a : AV} {ow : Nat → Option (Nat × Nat)} (hv : VR1 fp site w v a ow) : VR1 fp site' w v (pur1 xs a) ow := by
  cases a
  case agg l =>
    obtain ⟨⟨cs, h1, h2, h3⟩, h4⟩ := hv
    refine ⟨⟨cs, h1, by simpa using h2, fun j c u hc hu => ?_⟩, fun j hj => h4 j (by simpa using hj)⟩
    rw [List.getElem?_map, Option.map_eq_some_iff] at hc
    obtain ⟨c', hc, rfl⟩ := hc
    exact (h3 j c' u hc hu).pur hs
  case pagg l => exact hv
  case tup l => exact hv.1.elim
  case ptr x o =>
    have := VR0.pur (a := .ptr x o) hs hv.1
    simp only [pur1]
    simp only [pur0] at this ⊢
    split at this <;> rename_i h <;> simp only [h, if_true, if_false] <;> exact ⟨this, hv.2⟩
  case sr x o n sz =>
    have := VR0.pur (a := .sr x o n sz) hs hv.1
    simp only [pur1]
    simp only [pur0] at this ⊢
    split at this <;> rename_i h <;> simp only [h, if_true, if_false] <;> exact ⟨this, hv.2⟩
  case undef => exact hv
  case none => exact hv
  case pv p => exact hv
  case os e sz es => exact hv
  case rp l => exact hv
  case fn g => exact hv
theorem pur1_tup {a : AV} {l : List AV} (h : pur1 xs a = .tup l) : False := by
  cases a <;> first | (cases h; done) | (simp only [pur1, pur0] at h; (first | cases h | (split at h <;> cases h)))
theorem VR2.pur (hs : ∀ x b, x ∉ xs → site x = some b → site' x = some b) {a : AV} {ow : Nat → Option (Nat × Nat)} (hv : VR2 fp site w v a ow) : VR2 fp site' w v (pur2 xs a) ow := by
  by_cases ht : ∃ l, a = .tup l
  · obtain ⟨l, rfl⟩ := ht
    obtain ⟨⟨vs, h1, h2, h3⟩, h4⟩ := hv
    refine ⟨⟨vs, h1, by simpa using h2, fun j c u hc hu => ?_⟩, fun j hj => h4 j (by simpa using hj)⟩
    rw [List.getElem?_map, Option.map_eq_some_iff] at hc
    obtain ⟨c', hc, rfl⟩ := hc
    exact (h3 j c' u hc hu).pur hs
  · have hn : ∀ l, a ≠ .tup l := fun l hl => ht ⟨l, hl⟩
    rw [VR2_eq hn] at hv
    have e : pur2 xs a = pur1 xs a := by cases a <;> first | rfl | exact absurd rfl (hn _)
    rw [e, VR2_eq fun l hl => pur1_tup hl]
    exact hv.pur hs
end

section
variable {P : Program} {X : Ctx} {G : Gh} {s : S} {a : Act} {w : World} {N : Nat}

theorem Rel.kill (h : Rel X G s a w) (ts ms : List Nat) : ∃ G', Rel X G' (killS ts ms s) a w ∧ ∀ x, G'.site x = G.site x := by
  refine ⟨{ G with own := fun k j => match k with
    | .t n => if n ∈ ts then G.own (.t n) j else none
    | .m x => if x ∈ ms then G.own (.m x) j else none }, h.same _ (fun k j be hk => ?_) (fun k j k' j' b e e' h1 h2 => ?_) (fun t => ?_) (fun x => ?_) h.df, fun _ => rfl⟩
  · cases k <;> simp only at hk <;> split at hk <;> first | (cases hk; done) | exact ⟨_, _, hk⟩
  · have key : ∀ k j e, (match k with
      | .t n => if n ∈ ts then G.own (.t n) j else none
      | .m x => if x ∈ ms then G.own (.m x) j else none : Option (Nat × Nat)) = some (b, e) → G.own k j = some (b, e) := fun k j e hk => by
      cases k <;> simp only at hk <;> split at hk <;> first | (cases hk; done) | exact hk
    exact h.ownI _ _ _ _ _ _ _ (key _ _ _ h1) (key _ _ _ h2)
  · simp only [killS]
    by_cases ht : t ∈ ts
    · simp only [ht, if_true]; exact h.tmp t
    · simp only [ht, if_false]; exact VR2.undef _
  · simp only [killS]
    by_cases hx : x ∈ ms
    · simp only [hx, if_true]; exact h.mem x
    · simp only [hx, if_false]; exact fun _ => rfl

theorem Rel.purge (h : Rel X G s a w) (xs : List Nat) : ∃ G', Rel X G' (purgeS xs s) a w ∧ (∀ x, x ∉ xs → G'.site x = G.site x) ∧ ∀ x ∈ xs, G'.site x = none := by
  have hown : ∀ k j be, (match k with
      | .t n => G.own (.t n) j
      | .m x => if x ∈ xs then none else G.own (.m x) j : Option (Nat × Nat)) = some be → G.own k j = some be := fun k j be hk => by
    cases k <;> simp only at hk
    · exact hk
    · split at hk <;> first | (cases hk; done) | exact hk
  have hst : ∀ x b, (if x ∈ xs then none else G.site x) = some b → x ∉ xs ∧ G.site x = some b := fun x b hx => by
    split at hx
    · cases hx
    · exact ⟨by assumption, hx⟩
  have hsafe : ∀ b o, G.safe b o → Gh.safe ⟨fun x => if x ∈ xs then none else G.site x, fun k j => match k with
      | .t n => G.own (.t n) j
      | .m x => if x ∈ xs then none else G.own (.m x) j⟩ b o := fun b o hs => ⟨fun x hx => hs.1 x (hst x b hx).2, fun k j e he => hs.2 k j e (hown k j _ he)⟩
  have hfp : ∀ b o v, fp X G b o → w.cell? ⟨b, o, none⟩ = some v → fp X ⟨fun x => if x ∈ xs then none else G.site x, fun k j => match k with
      | .t n => G.own (.t n) j
      | .m x => if x ∈ xs then none else G.own (.m x) j⟩ b o ∧ w.cell? ⟨b, o, none⟩ = some v := fun b o v hf hc => ⟨⟨hf.1, hsafe b o hf.2⟩, hc⟩
  have hsite : ∀ x b, x ∉ xs → G.site x = some b → (fun x => if x ∈ xs then none else G.site x) x = some b := fun x b hx hb => by simp [hx, hb]
  refine ⟨⟨fun x => if x ∈ xs then none else G.site x, fun k j => match k with
      | .t n => G.own (.t n) j
      | .m x => if x ∈ xs then none else G.own (.m x) j⟩, ⟨fun t => ?_, fun x => ?_, fun k j k' j' b e e' h1 h2 => h.ownI _ _ _ _ _ _ _ (hown _ _ _ h1) (hown _ _ _ h2), fun k j b e x h1 h2 => h.ownS _ _ _ _ x (hown _ _ _ h1) (hst x b h2).2, fun x y b h1 h2 => h.siteI _ _ _ (hst x b h1).2 (hst y b h2).2, fun x b h1 => h.siteF x b (hst x b h1).2, fun k j b e h1 => h.ownF _ _ _ _ (hown _ _ _ h1), fun b o ho => hsafe b o (h.okS b o ho), h.okB, h.fr, h.df⟩, fun x hx => by simp [hx], fun x hx => by simp [hx]⟩
  · simp only [purgeS]
    exact ((h.tmp t).mono hfp (fun _ _ h => h) fun _ _ _ _ => rfl).pur hsite
  · simp only [purgeS]
    by_cases hx : x ∈ xs
    · simp only [hx, if_true]; exact fun _ => rfl
    · simp only [hx, if_false]
      have hm := h.mem x
      generalize s (.m x) = c at hm
      have fin : c ≠ .undef → MR (fp X ⟨fun x => if x ∈ xs then none else G.site x, fun k j => match k with
        | .t n => G.own (.t n) j
        | .m x => if x ∈ xs then none else G.own (.m x) j⟩) (fun x => if x ∈ xs then none else G.site x) w (pur1 xs c) (G.site x) (fun j => G.own (.m x) j) := fun hc => by
        cases c <;> first | exact absurd rfl hc | skip
        all_goals
          obtain ⟨b, cs, e, h1, h2, h3, h4⟩ := hm
          first
            | exact h4.elim
            | exact ⟨b, cs, e, h1, h2, (h3.mono hfp (fun _ _ h => h) fun _ _ _ _ => rfl).pur hsite, trivial⟩
      by_cases hc : c = .undef
      · subst hc; exact hm
      · exact fin hc

/-- What is known behind code. -/
def lift (X : Ctx) (N : Nat) (G0 : Gh) (Q : Exit → S → Prop) (e : Exit) (a : Act) (w : World) : Prop :=
  (match e with
    | .normal => True
    | .exit _ => True
    | .ret => True
    | _ => False) ∧ ∃ s G, Q e s ∧ Rel X G s a w ∧ a.tmps.size = N ∧ ∀ x, 1000 ≤ x → G.site x = G0.site x

def okRegion (P : Program) (N : Nat) (gl : List GOp) (ops : Array Oper) (draw : Bool) : Bool :=
  ops.size == gl.length && ((gl.zip ops.toList).all fun (g, o) => okG P N ops g o) && decide (IOp.alls gl).Nodup && ((IOp.alls gl).all fun x => decide (x < 1000)) && (!draw || (P.follows .mixedOrders && okOrd ops.toList gl))

/-- Is the model's code the abstract one? -/
def okIR (P : Program) (N : Nat) : IR → Code → Bool
  | .kill _ _ a, c => okIR P N a c
  | .skip, .skip => true
  | .skip, .label _ => true
  | .region gl, .region _ ops draw => okRegion P N gl ops draw
  | .seq a b, .seq x y => okIR P N a x && okIR P N b y
  | .cond c a b, .cond c' x y => okX c c' && okIR P N a x && okIR P N b y
  | .block id a, .block id' x => id == id' && okIR P N a x
  | .loop a, .loop x => okIR P N a x
  | .exit id, .exit id' => id == id'
  | .ret, .ret => true
  | .scope a, .scope x => okIR P N a x
  | _, _ => false

theorem step_scope {b : Go.Frame} {a : Act} {k : List Item} {cs : List Go.Frame} {w : World} {c : Code} : step P (lone (b.at a (.code (.scope c) :: k)) cs w) = .next (lone (b.at a (.code c :: .inScope c :: k)) cs w) :=
  step_lone_go (by simp [stepG, stepG.exec, Frame.at])
theorem step_inScope {b : Go.Frame} {a : Act} {k : List Item} {cs : List Go.Frame} {w : World} {c : Code} : step P (lone (b.at a (.inScope c :: k)) cs w) = .next (lone (b.at a k) cs w) :=
  step_lone_go (by simp [stepG, stepG.exec, Frame.at])

theorem codeSound {ir : IR} : ∀ {c : Code} {Q : Exit → S → Prop} {G0 : Gh} {G : Gh} {s : S} {a : Act} {w : World}, okIR P N ir c = true → iwp P ir s Q → Rel X G s a w → a.tmps.size = N → (∀ x, 1000 ≤ x → G.site x = G0.site x) → c.wp P (lift X N G0 Q) a w := by
  induction ir with
  | skip =>
    intro c Q G0 G s a w hok h hR hN hG
    cases c <;> simp only [okIR, Bool.false_eq_true] at hok
    · exact wp_skip ⟨trivial, s, G, h, hR, hN, hG⟩
    · exact wp_label ⟨trivial, s, G, h, hR, hN, hG⟩
  | region gl =>
    intro c Q G0 G s a w hok h hR hN hG
    cases c <;> simp only [okIR, Bool.false_eq_true] at hok
    rename_i id ops draw
    simp only [okRegion, Bool.and_eq_true, beq_iff_eq, decide_eq_true_eq, List.all_eq_true] at hok
    obtain ⟨⟨⟨⟨hlen, hall⟩, hnd⟩, hsm⟩, hdr⟩ := hok
    have hokG : ∀ (i : Nat) g, gl[i]? = some g → ∃ o, ops[i]? = some o ∧ okG P N ops g o = true := fun i g hg => by
      have hi : i < ops.size := by rw [hlen]; exact (List.getElem?_eq_some_iff.1 hg).1
      refine ⟨ops[i], Array.getElem?_eq_getElem hi, ?_⟩
      exact hall (g, ops[i]) (List.mem_of_getElem? (i := i) (List.getElem?_zip_eq_some.2 ⟨hg, by rw [Array.getElem?_toList, Array.getElem?_eq_getElem hi]⟩))
    -- the state behind the purge
    have hpur : ∃ s1, wpI P gl s1 (Q .normal) ∧ ∀ w1, Rel X G s a w1 → ∃ G1, Rel X G1 s1 a w1 ∧ (∀ x, x ∉ IOp.alls gl → G1.site x = G.site x) ∧ Free G1 s1 gl := by
      simp only [iwp] at h
      cases hal : IOp.alls gl with
      | nil =>
        rw [hal] at h
        refine ⟨s, h, fun w1 h1 => ⟨G, h1, fun _ _ => rfl, fun x hx => ?_⟩⟩
        have : x ∈ IOp.alls gl := hx
        rw [hal] at this
        cases this
      | cons y ys =>
        rw [hal] at h
        refine ⟨purgeS (y :: ys) s, h, fun w1 h1 => ?_⟩
        obtain ⟨G1, q1, q2, q3⟩ := h1.purge (y :: ys)
        refine ⟨G1, q1, q2, fun x hx => ?_⟩
        have hx' : x ∈ y :: ys := by rw [← hal]; exact hx
        exact ⟨q3 x hx', by simp only [purgeS]; rw [if_pos hx']⟩
    obtain ⟨s1, h1, hG1⟩ := hpur
    have hK : ∀ (G1 : Gh), (∀ x, x ∉ IOp.alls gl → G1.site x = G.site x) → ∀ a w, Kn X N G1 (IOp.alls gl) (Q .normal) a w → lift X N G0 Q .normal a w := fun G1 hs a w hk => by
      obtain ⟨s', G', k1, k2, k3, k4⟩ := hk
      refine ⟨trivial, s', G', k1, k2, k3, fun x hx => ?_⟩
      have hn : x ∉ IOp.alls gl := fun hm => by have := hsm x hm; omega
      rw [k4 x hn, hs x hn, hG x hx]
    cases draw with
    | false =>
      obtain ⟨G1, q1, q2, q3⟩ := hG1 w hR
      refine wp_region (textSound (hK G1 q2) gl (List.range ops.size) s1 G1 a w (by simpa using hlen) (fun k i g hk hg => ?_) hnd (fun x hx => hx) (fun _ _ => rfl) q3 q1 hN h1)
      obtain ⟨hk1, hk2⟩ := List.getElem?_eq_some_iff.1 hk
      simp at hk2
      subst hk2
      exact hokG _ g hg
    | true =>
      simp only [Bool.not_true, Bool.false_or, Bool.and_eq_true] at hdr
      obtain ⟨G1, q1, q2, q3⟩ := hG1 w.drew hR.drew
      have hL : ∀ i, i < gl.length → (Array.replicate ops.size false).getD i true = false := fun i hi => by
        have : i < ops.size := by omega
        simp [Array.getD, this]
      have hrem : rem gl (Array.replicate ops.size false) = gl := by
        unfold rem
        rw [List.filter_eq_self.2 fun p hp => ?_]
        · unfold idxd
          rw [List.map_snd_zip (by simp)]
        · obtain ⟨k, hk⟩ := List.getElem?_of_mem hp
          obtain ⟨_, h2⟩ := idxd_get (i := p.1) (g := p.2) hk
          rw [hL p.1 (List.getElem?_eq_some_iff.1 h2).1]
          rfl
      refine wp_region_any hdr.1 (anySound (hK G1 q2) hlen hokG hdr.2 hnd (fun x hx => hx) ops.size _ s1 G1 a w.drew (by simpa using hlen) (by rw [hrem, hlen]) (fun i hi => ?_) (by rw [hrem]; exact hnd) (by rw [hrem]; exact fun x hx => hx) (fun _ _ => rfl) (by rw [hrem]; exact q3) q1 hN (by rw [hrem]; exact h1))
      by_cases hlt : i < ops.size <;> simp [Array.getD, hlt] at hi
  | seq a b iha ihb =>
    intro c Q G0 G s a w hok h hR hN hG
    cases c <;> simp only [okIR, Bool.false_eq_true, Bool.and_eq_true] at hok
    refine wp_seq (wp_mono (iha hok.1 h hR hN hG) fun e a w hl => ?_)
    obtain ⟨h1, s', G', h2, h3, h4, h5⟩ := hl
    cases e <;> simp only at h1
    case normal => exact ihb hok.2 h2 h3 h4 h5
    case exit id => exact ⟨trivial, s', G', h2, h3, h4, h5⟩
    case ret => exact ⟨trivial, s', G', h2, h3, h4, h5⟩
  | cond c a b iha ihb =>
    intro c' Q G0 G s a w hok h hR hN hG
    cases c' <;> simp only [okIR, Bool.false_eq_true, Bool.and_eq_true] at hok
    rename_i y c1 c2
    simp only [iwp] at h
    split at h
    · rename_i t ht
      have hv : V2 (fp X G) G.site w (a.eval y) (ev s c).dem2 := hR.opd _ _ hok.1.1
      rw [ht] at hv
      exact wp_cond_split hv.bool (fun q => iha hok.1.2 (h.1 q) hR hN hG) fun q => ihb hok.2 (h.2 q) hR hN hG
    · exact h.elim
  | block id a iha =>
    intro c Q G0 G s a w hok h hR hN hG
    cases c <;> simp only [okIR, Bool.false_eq_true, Bool.and_eq_true, beq_iff_eq] at hok
    obtain ⟨rfl, hok⟩ := hok
    refine wp_block (wp_mono (iha hok h hR hN hG) fun e a w hl => ?_)
    obtain ⟨h1, s', G', h2, h3, h4, h5⟩ := hl
    cases e <;> simp only at h1
    case normal => exact ⟨trivial, s', G', h2, h3, h4, h5⟩
    case exit id' =>
      simp only [Exit.inBlock, blockA] at h2 ⊢
      split
      · rename_i q; rw [if_pos q] at h2; exact ⟨trivial, s', G', h2, h3, h4, h5⟩
      · rename_i q; rw [if_neg q] at h2; exact ⟨trivial, s', G', h2, h3, h4, h5⟩
    case ret => exact ⟨trivial, s', G', h2, h3, h4, h5⟩
  | loop x iha =>
    intro c Q G0 G s a w hok h hR hN hG
    cases c <;> simp only [okIR, Bool.false_eq_true] at hok
    rename_i c
    have key := h (fun s => ∀ G a w, Rel X G s a w → a.tmps.size = N → (∀ x, 1000 ≤ x → G.site x = G0.site x) → ∀ (b : Go.Frame) (k : List Item) (cs : List Go.Frame), ∃ e a' w', lift X N G0 Q e a' w' ∧ Arrives P (lone (b.at a (.code c :: .inLoop c :: k)) cs w) b k cs e a' w') (fun s hs G a w hR hN hG b k cs => by
      obtain ⟨e, a₁, w₁, hl, harr⟩ := iha hok hs hR hN hG b (.inLoop c :: k) cs
      obtain ⟨h1, s', G', h2, h3, h4, h5⟩ := hl
      cases e <;> simp only at h1
      case normal =>
        obtain ⟨e₂, a₂, w₂, hq₂, harr₂⟩ := h2 G' a₁ w₁ h3 h4 h5 b k cs
        exact ⟨e₂, a₂, w₂, hq₂, .of_steps (Steps.trans harr (.one step_inLoop)) harr₂⟩
      case exit id => exact ⟨_, a₁, w₁, ⟨trivial, s', G', h2, h3, h4, h5⟩, .pass (x := .inLoop c) rfl (fun _ _ => .inl (by simp)) harr⟩
      case ret => exact ⟨_, a₁, w₁, ⟨trivial, s', G', h2, h3, h4, h5⟩, .pass (x := .inLoop c) rfl (fun _ _ => .inl (by simp)) harr⟩)
    intro b k cs
    obtain ⟨e, a', w', hq, harr⟩ := key G a w hR hN hG b k cs
    exact ⟨e, a', w', hq, .of_steps (.one step_loop) harr⟩
  | exit id =>
    intro c Q G0 G s a w hok h hR hN hG
    cases c <;> simp only [okIR, Bool.false_eq_true, beq_iff_eq] at hok
    subst hok
    exact wp_exit ⟨trivial, s, G, h, hR, hN, hG⟩
  | ret =>
    intro c Q G0 G s a w hok h hR hN hG
    cases c <;> simp only [okIR, Bool.false_eq_true] at hok
    exact wp_ret ⟨trivial, s, G, h, hR, hN, hG⟩
  | scope x iha =>
    intro c Q G0 G s a w hok h hR hN hG
    cases c <;> simp only [okIR, Bool.false_eq_true] at hok
    rename_i c
    intro b k cs
    obtain ⟨e, a₁, w₁, hl, harr⟩ := iha hok h hR hN hG b (.inScope c :: k) cs
    obtain ⟨h1, s', G', h2, h3, h4, h5⟩ := hl
    cases e <;> simp only at h1
    case normal => exact ⟨.normal, a₁, w₁, ⟨trivial, s', G', h2, h3, h4, h5⟩, .head step_scope (Steps.trans harr (.one step_inScope))⟩
    case exit id => exact ⟨.exit id, a₁, w₁, ⟨trivial, s', G', h2, h3, h4, h5⟩, fun k' hk => .head step_scope (harr k' (by simpa [exitTo] using hk))⟩
    case ret => exact ⟨.ret, a₁, w₁, ⟨trivial, s', G', h2, h3, h4, h5⟩, .of_steps (.one step_scope) harr⟩
  | kill ts ms x iha =>
    intro c Q G0 G s a w hok h hR hN hG
    have hok' : okIR P N x c = true := by cases c <;> exact hok
    obtain ⟨G1, q1, q2⟩ := hR.kill ts ms
    exact iha hok' h q1 hN fun x hx => (q2 x).trans (hG x hx)

/-- What a function answers. -/
inductive RS where
  | t (n : Nat)
  | cell (n : Nat) (k : Option (Nat × Bool))
def okRS (P : Program) : List RS → List ResultVar → Bool
  | [], [] => true
  | .t n :: r, .tmp m :: r' => n == m && okRS P r r'
  | .cell n k :: r, .cell m t :: r' => n == m && okLoadT P t k && okRS P r r'
  | _, _ => false
def resv (s : S) : RS → Option (Prop × AV)
  | .t n => match s (.t n) with
    | .tup _ => none
    | a => some (True, match a with
      | .agg l => .agg (l.map AV.dem0)
      | a => a)
  | .cell n k => match s (.t n) with
    | .ptr y o => loadA (s (.m y)) o k
    | _ => none
def resvs (s : S) : List RS → Option (Prop × List AV)
  | [] => some (True, [])
  | x :: r => match resv s x, resvs s r with
    | some (c, a), some (c', l) => some (c ∧ c', a :: l)
    | _, _ => none
def resA (s : S) : List RS → Option (Prop × AV)
  | [x] => resv s x
  | xs => match resvs s xs with
    | some (c, l) => some (c, .tup l)
    | none => none
def rsT : RS → List Nat
  | .t n => [n]
  | .cell _ _ => []
/-- How sites are named for the caller. -/
def outF (ns : List Nat) (x : Nat) : Option Nat := if 1000 ≤ x then (if x < 2000 then some x else none) else (ns.idxOf? x).map (2000 + ·)
end
end Go.Abs
