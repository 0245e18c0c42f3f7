/- The abstract machine: all operations are sound, guards and regions, in whatever order. No condition. -/
import Derived.Test.YtgnajpfackfcaaaAbsO
set_option linter.unusedVariables false
set_option linter.unusedSimpArgs false
namespace Go.Abs
open Go.RowKit

section
variable {P : Program} {X : Ctx} {G : Gh} {s : S} {a : Act} {w : World} {o : Oper} {U : List (Key × AV)} {N : Nat}

theorem c_safe (hR : Rel X G s a w) {lent frz : List Nat} (hfr : ∀ y ∈ frz, y ∉ lent) : ∀ b oo, (cCtx X G w lent frz).ok b oo → (cGh G lent).safe b oo := fun b oo hok => by
  obtain ⟨hb, hok⟩ := hok
  refine ⟨fun x hx => ?_, fun k j e he => ?_⟩
  · obtain ⟨y, _, h1, h2⟩ := cGh_site hx
    rcases hok with hok | ⟨z, hz, hzb⟩
    · exact hok.2.1 y h2
    · have := hR.siteI _ _ _ hzb h2
      subst this
      exact hfr _ hz (List.mem_of_getElem? h1)
  · obtain ⟨x, y, _, _, h1, h2⟩ := cGh_own he
    rcases hok with hok | ⟨z, hz, hzb⟩
    · exact hok.2.2 _ _ _ h2
    · exact absurd hzb (hR.ownS _ _ _ _ _ h2)
theorem c_fp (hR : Rel X G s a w) {lent frz : List Nat} (hfr : ∀ y ∈ frz, y ∉ lent) : ∀ b oo v, fp X G b oo → w.cell? ⟨b, oo, none⟩ = some v → fp (cCtx X G w lent frz) (cGh G lent) b oo := fun b oo v hf hc => by
  have hb := (cell_alloc (ob := .chan 0 #[] false 0 0 false) hc).2
  exact ⟨Or.inl ⟨hb, Or.inl hf⟩, c_safe hR hfr b oo ⟨hb, Or.inl hf⟩⟩
theorem c_site {lent : List Nat} : ∀ x y b, inF lent x = some y → G.site x = some b → (cGh G lent).site y = some b := fun x y b hx hb => by
  unfold inF at hx
  rw [Option.map_eq_some_iff] at hx
  obtain ⟨k, hk, rfl⟩ := hx
  have := idx_back hk
  simp only [cGh]
  rw [if_pos (by omega), show 1000 + k - 1000 = k by omega, this]
  exact hb

theorem ren1_tup {f : Nat → Option Nat} {a : AV} {l : List AV} (h : ren1 f a = .tup l) : False := by
  cases a <;> first | (cases h; done) | (simp only [ren1, ren0] at h; (first | cases h | (split at h <;> cases h)))

theorem arg_in (hR : Rel X G s a w) {lent frz : List Nat} (hfr : ∀ y ∈ frz, y ∉ lent) {x : Opd} {y : Operand} (hx : okX x y = true) {c : Prop} {av : AV} (ha : argA s lent frz x = some (c, av)) (hc : c) :
    V2 (fp (cCtx X G w lent frz) (cGh G lent)) (cGh G lent).site w (a.eval y) av := by
  have hv : V2 (fp X G) G.site w (a.eval y) (ev s x).dem2 := hR.opd _ _ hx
  have gen : ∀ z, V2 (fp X G) G.site w (a.eval y) z → (∀ l, z ≠ .tup l) → V2 (fp (cCtx X G w lent frz) (cGh G lent)) (cGh G lent).site w (a.eval y) (ren1 (inF lent) z) := fun z hz hn => by
    unfold V2 at hz ⊢
    rw [VR2_eq hn] at hz
    rw [VR2_eq fun l hl => ren1_tup hl]
    exact hz.ren (c_fp hR hfr) c_site
  unfold argA at ha
  split at ha
  · rename_i yy oo n sz hev
    split at ha
    · rename_i hy
      split at ha
      · rename_i l hl
        simp only [Option.some.injEq, Prod.mk.injEq] at ha
        obtain ⟨rfl, rfl⟩ := ha
        obtain ⟨hle, hn⟩ := hc
        rw [hev] at hv
        obtain ⟨b, cap, hb, hav, h1, h2⟩ := hv.sr
        obtain ⟨cs, et, hblk, hz⟩ := hR.block hb (by rw [hl]; trivial)
        rw [hl] at hz
        obtain ⟨⟨cs', e1, hp⟩, _⟩ := hz
        cases e1
        have hbl := (hR.siteF _ _ hb).1
        refine V2.mkpv ?_
        rw [hav]
        have hlen : (((l.drop oo).take n).map fun p => [p]).length = n := by simp; omega
        have hok : ∀ i, (cCtx X G w lent frz).ok b i := fun i => ⟨hbl, Or.inr ⟨yy, hy.1, hb⟩⟩
        have key := PR.mksl (fp := fp (cCtx X G w lent frz) (cGh G lent)) (w := w) (b := b) (o := oo) (cap := cap) (sz := 1) (es := ((l.drop oo).take n).map fun p => [p]) (by omega) h2 (fun r hr => by obtain ⟨p, _, rfl⟩ := List.mem_map.1 hr; rfl) (fun i r j p hi hj => by
          rw [List.getElem?_map, Option.map_eq_some_iff] at hi
          obtain ⟨p', hi, rfl⟩ := hi
          cases j with
          | succ j => simp at hj
          | zero =>
            simp at hj
            subst hj
            rw [List.getElem?_take] at hi
            split at hi
            · rw [List.getElem?_drop] at hi
              obtain ⟨u, hu, hpr⟩ := hp.get hi
              refine ⟨⟨Or.inl (hok _), c_safe hR hfr _ _ (hok _)⟩, u, ?_, ?_⟩
              · rw [cell_of_heap hblk, Nat.mul_one, Nat.add_zero]; simpa using hu
              · exact hpr.mono fun b o v hf hc => ⟨c_fp hR hfr b o v hf hc, hc⟩
            · cases hi)
        rw [hlen] at key
        exact key
      · cases ha
    · cases ha
  · cases ha
  · rename_i hne1 hne2
    simp only [Option.some.injEq, Prod.mk.injEq] at ha
    obtain ⟨_, rfl⟩ := ha
    exact gen _ hv fun l hl => hne2 l hl

theorem args_in (hR : Rel X G s a w) {lent frz : List Nat} (hfr : ∀ y ∈ frz, y ∉ lent) : ∀ {xs : List Opd} {ys : List Operand} {c : Prop} {args : List AV}, okXs xs ys = true → argsA s lent frz xs = some (c, args) → c →
    ys.length = args.length ∧ ∀ (i : Nat) y av, ys[i]? = some y → args[i]? = some av → V2 (fp (cCtx X G w lent frz) (cGh G lent)) (cGh G lent).site w (a.eval y) av := by
  intro xs
  induction xs with
  | nil =>
    intro ys c args h1 h2 _
    cases ys with
    | nil => simp only [argsA, Option.some.injEq, Prod.mk.injEq] at h2; obtain ⟨_, rfl⟩ := h2; exact ⟨rfl, fun i y av h => by simp at h⟩
    | cons _ _ => simp [okXs] at h1
  | cons x r ih =>
    intro ys c args h1 h2 hc
    cases ys with
    | nil => simp [okXs] at h1
    | cons y ys =>
      simp only [okXs, Bool.and_eq_true] at h1
      simp only [argsA] at h2
      split at h2
      · rename_i c1 a1 c2 l2 e1 e2
        simp only [Option.some.injEq, Prod.mk.injEq] at h2
        obtain ⟨rfl, rfl⟩ := h2
        obtain ⟨q1, q2⟩ := ih h1.2 e2 hc.2
        refine ⟨by simp [q1], fun i y' av hi hj => ?_⟩
        cases i with
        | zero => simp at hi hj; subst hi hj; exact arg_in hR hfr h1.1 e1 hc.1
        | succ i => exact q2 i y' av (by simpa using hi) (by simpa using hj)
      · cases h2

theorem i_call {d f : Nat} {xs : List Opd} {lent news frz : List Nat} (hR : Rel X G s a w) (hN : a.tmps.size = N) (hfree : ∀ x ∈ news, G.site x = none) (hok : okCall P N d f xs lent news frz o = true) (he : CallEff P s d f xs lent news frz U) : NxtW P X G o a w (s.ups U) news := by
  simp only [okCall, Bool.and_eq_true] at hok
  obtain ⟨h1, h2⟩ := hok
  obtain ⟨hd, hlt⟩ := okDst_spec h1
  split at h2
  · rename_i cl hop
    split at h2
    · rename_i g hcal
      simp only [Bool.and_eq_true, beq_iff_eq, decide_eq_true_eq, List.all_eq_true, Bool.not_eq_true', List.contains_eq_mem, decide_eq_false_iff_not] at h2
      obtain ⟨⟨⟨⟨⟨rfl, hxs⟩, hfn⟩, hnd⟩, hsmall⟩, hfr⟩ := h2
      split at hfn
      · rename_i fn hfun
        simp only [bne_iff_ne, ne_eq, Bool.and_eq_true] at hfn
        obtain ⟨c, args, r, lent', newc, hargs, hc, hagg, hcall, hl1, hl2, hg1, hg2, hflat, rfl⟩ := he
        obtain ⟨hlen, hvals⟩ := args_in hR hfr hxs hargs hc
        have hin := call_in hR (List.nodup_append.1 hnd).1 hfr (args := args) (vals := cl.args.map a.eval) (by rw [Array.size_map, ← hlen]; simp) (fun i v av hi hj => by
          rw [Array.getElem?_map, Option.map_eq_some_iff] at hi
          obtain ⟨y, hy, rfl⟩ := hi
          exact hvals i y av (by simpa using hy) hj) hagg
        have hcalls := hcall _ _ w (cl.args.map a.eval) (by rw [Array.size_map, ← hlen]; simp) rfl hin
        intro K Q hK
        have hrun : (execOp a.eval o).run P w = .ok (.enter g (cl.args.map a.eval)) w := by
          obtain ⟨bd, hbd⟩ := Option.isSome_iff_exists.1 hfn.1
          simp [execOp, hop, resolve, hcal, Act.eval, Deferred.ofValue, invoke, callFunc, hfun, hfn.2, hbd]
        unfold Oper.wp
        rw [hrun]
        refine Calls.mono hcalls fun e w' hh => ?_
        obtain ⟨v, G', rfl, hR', hs1, hs2⟩ := hh
        have hls : ∀ y ∈ lent, ∃ b, G.site y = some b := fun y hy => by
          have ha := hagg y hy
          have hm := hR.mem y
          generalize s (.m y) = z at ha hm
          cases z <;> simp only [AV.isAgg] at ha
          all_goals
            obtain ⟨b, _, _, hb, _⟩ := hm
            exact ⟨b, hb⟩
        have hout := call_out hR (d := d) (by rw [hN]; exact hlt) hnd hfr hfree hls hl1 hl2 hg1 hg2 hflat hR' hs1 hs2 hsmall
        show K (a.put o.dst v) w'
        rw [hd]
        refine hK _ _ _ hout (put_size _ _ _) fun x hx => ?_
        simp only [rSite]
        rw [idx_none hx]
      · cases hfn
    · cases h2
  · cases h2

/-- Is the model's operation the abstract one? -/
def okOp (P : Program) (N : Nat) (i : IOp) (o : Oper) : Bool :=
  match i with
  | .call d f xs lent news frz => okCall P N d f xs lent news frz o
  | i => okI P N i o

theorem opSound {i : IOp} (hR : Rel X G s a w) (hN : a.tmps.size = N) (hfree : ∀ x ∈ i.makes, G.site x = none ∧ s (.m x) = .undef) (hok : okOp P N i o = true) (he : EffR P s i U) : NxtW P X G o a w (s.ups U) i.makes := by
  cases i with
  | call d f xs lent news frz => exact i_call hR hN (fun x hx => (hfree x hx).1) hok he
  | p d po xs => obtain ⟨c, h1, h2⟩ := he; exact (i_p hR hN hok h1 h2).W
  | mv d n => obtain ⟨c, h1, h2⟩ := he; exact (i_mv hR hN hok h1).W
  | alloc d z => obtain ⟨c, h1, h2⟩ := he; exact (i_alloc hR hN (hfree d (by simp [IOp.makes])).1 (hfree d (by simp [IOp.makes])).2 hok h1).W
  | box d x => obtain ⟨c, h1, h2⟩ := he; exact (i_box hR hN (hfree d (by simp [IOp.makes])).1 (hfree d (by simp [IOp.makes])).2 hok h1).W
  | mks d z x => obtain ⟨c, h1, h2⟩ := he; exact (i_mks hR hN (hfree d (by simp [IOp.makes])).1 (hfree d (by simp [IOp.makes])).2 hok h1 h2).W
  | build d z ps => obtain ⟨c, h1, h2⟩ := he; exact (i_build hR hN hok h1 h2).W
  | bslice d e sz n z ps => obtain ⟨c, h1, h2⟩ := he; exact (i_bslice hR hN hok h1 h2).W
  | load d n st x => obtain ⟨c, h1, h2⟩ := he; exact (i_load hR hN hok h1 h2).W
  | loadmv d st x => obtain ⟨c, h1, h2⟩ := he; exact (i_loadmv hR hN hok h1 h2).W
  | store n st x v => obtain ⟨c, h1, h2⟩ := he; exact (i_store (N := N) hR hok h1 h2).W
  | storemv st x n => obtain ⟨c, h1, h2⟩ := he; exact (i_storemv (N := N) hR hok h1 h2).W
  | app d e sz n st x => obtain ⟨c, h1, h2⟩ := he; exact (i_app hR hN hok h1 h2).W
  | fzb d n => obtain ⟨c, h1, h2⟩ := he; exact (i_fzb hR hN hok h1 h2).W
  | copy d v st x y => obtain ⟨c, h1, h2⟩ := he; exact (i_copy hR hN hok h1 h2).W

/-- Guards, and destinations. -/
def okG (P : Program) (N : Nat) (ops : Array Oper) (g : GOp) (o : Oper) : Bool :=
  okOp P N g.1 o && decide (o.dst = g.1.dst) && (match g.2, o.guard with
    | none, none => true
    | some (t, b), some (j, b') => b == b' && decide ((ops[j]?).bind (·.dst) = some t) && decide (t < N)
    | _, _ => false) && (match g.1.dst with
    | some d => decide (d < N)
    | none => true)

theorem gSound {ops : Array Oper} {g : GOp} {idx : Nat} (hR : Rel X G s a w) (hN : a.tmps.size = N) (hfree : ∀ x ∈ g.1.makes, G.site x = none ∧ s (.m x) = .undef) (ho : ops[idx]? = some o) (hok : okG P N ops g o = true) (he : EffG P s g U)
    {K : Act → World → Prop} {Q : Exit → Act → World → Prop} (hK : ∀ a' w' G', Rel X G' (s.ups U) a' w' → a'.tmps.size = N → (∀ x, x ∉ g.1.makes → G'.site x = G.site x) → K a' w') : wpOp P ops Q idx K a w := by
  simp only [okG, Bool.and_eq_true, decide_eq_true_eq] at hok
  obtain ⟨⟨⟨hop, hdst⟩, hgd⟩, hdN⟩ := hok
  have run : EffR P s g.1 U → o.wp P a w K Q := fun he => opSound hR hN hfree hop he K Q fun a' w' G' h1 h2 h3 => hK a' w' G' h1 (h2.trans hN) h3
  have skip : U = skipU g.1 → K (a.put o.dst Go.undef) w := fun hU => by
    subst hU
    unfold skipU at hK
    rw [hdst]
    cases hd : g.1.dst with
    | none =>
      rw [hd] at hK
      exact hK a w G hR hN fun _ _ => rfl
    | some d =>
      rw [hd] at hK hdN
      simp only [decide_eq_true_eq] at hdN
      exact hK _ _ _ (hR.put (by rw [hN]; exact hdN) (av := .none) ⟨⟨rfl, rfl⟩, fun _ _ => rfl⟩) ((put_size _ _ _).trans hN) fun _ _ => rfl
  unfold wpOp
  simp only [ho]
  unfold EffG at he
  split at he
  · rename_i hg
    rw [hg] at hgd
    have hog : o.guard = none := by
      cases h : o.guard with
      | none => rfl
      | some jb => rw [h] at hgd; simp at hgd
    rw [if_pos (by simp [Region.wanted, hog])]
    exact .inl (run he)
  · rename_i t want hg
    rw [hg] at hgd
    cases hog : o.guard with
    | none => rw [hog] at hgd; simp at hgd
    | some jb =>
      obtain ⟨j, b'⟩ := jb
      rw [hog] at hgd
      simp only [Bool.and_eq_true, beq_iff_eq, decide_eq_true_eq] at hgd
      obtain ⟨⟨rfl, hj⟩, htN⟩ := hgd
      have hget : a.tmps[t]? = some (a.tmps.getD t Go.undef) := by
        have : t < a.tmps.size := by omega
        simp [Array.getD, this]
      have hy : yielded ops a.tmps j = match a.tmps.getD t Go.undef with
        | .bool b => some b
        | _ => none := by
        unfold yielded
        rw [hj]
        simp only [Option.bind_some, hget]
        generalize a.tmps.getD t Go.undef = q
        cases q <;> rfl
      have ht := hR.tmp t
      split at he
      · rename_i b hb
        rw [hb] at ht
        have hval : a.tmps.getD t Go.undef = .bool b := by obtain ⟨⟨h, _⟩, _⟩ := ht; generalize a.tmps.getD t Go.undef = q at h; cases h; rfl
        rw [hval] at hy
        simp only [Region.wanted, hog, hy]
        by_cases hw : b = want
        · rw [if_pos hw] at he
          rw [if_pos (by simp [hw])]
          exact .inl (run he)
        · rw [if_neg hw] at he
          rw [if_neg (by simp [hw])]
          exact skip he
      · rename_i hb
        rw [hb] at ht
        have hval : a.tmps.getD t Go.undef = Go.undef := ht.1.1
        rw [hval] at hy
        simp only [Region.wanted, hog, hy]
        rw [if_neg (by simp [Go.undef])]
        exact skip he
      · exact he.elim
end
end Go.Abs
