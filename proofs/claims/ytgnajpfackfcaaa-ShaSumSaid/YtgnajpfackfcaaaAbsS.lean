/- The abstract machine: a function's contract out of its code. No condition. -/
import Derived.Test.YtgnajpfackfcaaaAbsR
set_option linter.unusedVariables false
set_option linter.unusedSimpArgs false
namespace Go.Abs
open Go.RowKit

/-- What a function's code must come to. -/
def RetOK (rs : List RS) (ns : List Nat) (s : S) (r : AV) (lent' newc : List AV) : Prop :=
  ∃ c r0, resA s rs = some (c, r0) ∧ c ∧ r = ren2 (outF ns) r0 ∧ lent' = (List.range lent'.length).map (fun k => ren1 (outF ns) (s (.m (1000 + k)))) ∧ newc = ns.map (fun x => ren1 (outF ns) (s (.m x)))

def own1 (G : Gh) (s : S) : RS → Option (Nat × Nat)
  | .t n => match s (.t n) with
    | .os _ _ _ => G.own (.t n) 0
    | _ => none
  | .cell _ _ => none

section
variable {P : Program} {X : Ctx} {G : Gh} {s : S} {a : Act} {w : World} {N : Nat}

def resVal (tmps : Array Value) : ResultVar → Sem Value
  | .tmp t => pure (tmps.getD t Go.undef)
  | .cell a t => do loadVar t (← asAddr (tmps.getD a Go.undef))

theorem res1 (hR : Rel X G s a w) {x : RS} {y : ResultVar} {c : Prop} {r : AV} (hok : okRS P [x] [y] = true) (hr : resv s x = some (c, r)) (hc : c) :
    ∃ u, (resVal a.tmps y).run P w = .ok u w ∧ VR1 (fp X G) G.site w u r (at0 (own1 G s x)) := by
  cases x with
  | t n =>
    cases y <;> simp only [okRS, Bool.and_true, Bool.false_eq_true] at hok
    rename_i m
    simp only [beq_iff_eq] at hok
    subst hok
    refine ⟨a.tmps.getD n Go.undef, by simp [resVal], ?_⟩
    have ht := hR.tmp n
    have e0 : at0 (none : Option (Nat × Nat)) = fun _ => none := by funext j; simp [at0]
    simp only [resv, own1] at hr ⊢
    generalize s (.t n) = z at ht hr
    cases z <;> simp only [Option.some.injEq, Prod.mk.injEq, reduceCtorEq] at hr <;> obtain ⟨hT, rfl⟩ := hr
    case os e sz es =>
      refine ⟨ht.1, fun j hj => ?_⟩
      simp [at0, show j ≠ 0 by omega]
    case agg l =>
      rw [e0]
      exact VR1.dem (a := .agg l) ht fun j g e he o ho => hR.ownfp he ho
    case pagg l => rw [e0]; exact ⟨ht.1, fun _ => rfl⟩
    case undef => rw [e0]; exact ⟨rfl, fun _ _ => rfl⟩
    case none => rw [e0]; exact ⟨⟨ht.1.1, rfl⟩, fun _ _ => rfl⟩
    case pv p => rw [e0]; exact ⟨⟨ht.1.1, rfl⟩, fun _ _ => rfl⟩
    case ptr x o => rw [e0]; exact ⟨⟨ht.1.1, rfl⟩, fun _ _ => rfl⟩
    case rp l => rw [e0]; exact ⟨⟨ht.1.1, rfl⟩, fun _ _ => rfl⟩
    case sr x o n sz => rw [e0]; exact ⟨⟨ht.1.1, rfl⟩, fun _ _ => rfl⟩
    case fn g => rw [e0]; exact ⟨⟨ht.1.1, rfl⟩, fun _ _ => rfl⟩
  | cell n k =>
    cases y <;> simp only [okRS, Bool.and_true, Bool.false_eq_true, Bool.and_eq_true] at hok
    rename_i m t
    simp only [beq_iff_eq] at hok
    obtain ⟨rfl, hlt⟩ := hok
    simp only [resv] at hr
    split at hr
    · rename_i yy oo hz
      have ht := hR.tmp n
      rw [hz] at ht
      obtain ⟨⟨⟨b, hb, hav⟩, _⟩, _⟩ := ht
      have hm := hR.mem yy
      have hagg : (s (.m yy)).isAgg := by
        rcases loadA_isAgg hr with q | ⟨l, q⟩
        · exact q
        · rw [q] at hm
          obtain ⟨_, _, _, _, _, _, q⟩ := hm
          exact q.elim
      obtain ⟨cs, e, hblk, hz1⟩ := hR.block hb hagg
      have hf := fun j g e (he : G.own (.m yy) j = some (g, e)) o (ho : o < e) => hR.ownfp he ho
      have e0 : at0 (none : Option (Nat × Nat)) = fun _ => none := by funext j; simp [at0]
      have fin : ∀ u, (loadVar t ⟨b, oo, none⟩).run P w = .ok u w → V2 (fp X G) G.site w u r → (∀ l, r ≠ .tup l) → ∃ u, (resVal a.tmps (.cell n t)).run P w = .ok u w ∧ VR1 (fp X G) G.site w u r (at0 (own1 G s (.cell n k))) := fun u hu hv hn => by
        refine ⟨u, by simp only [resVal, hav, asAddr, Sem.run_bind, Sem.run_pure, Result.andThen_ok, hu], ?_⟩
        simp only [own1]
        rw [e0]
        unfold V2 at hv
        rwa [VR2_eq hn] at hv
      cases k with
      | none =>
        simp only [loadA, Option.map_eq_some_iff, Prod.mk.injEq] at hr
        obtain ⟨r', hl, _, rfl⟩ := hr
        obtain ⟨u, hu, hr⟩ := getc_own hz1 hagg hf hl
        have hcell : w.cell? ⟨b, oo, none⟩ = some u := by rw [cell_of_heap hblk]; exact hu
        exact fin u (by simp [loadVar, run_isAgg (loadT_none hlt), hcell]) (V2.of0 hr) fun l hl => by subst hl; exact hr
      | some kw =>
        obtain ⟨k, wh⟩ := kw
        obtain ⟨q1, q2⟩ := load_agg hz1 hagg hf hr hc
        simp only [okLoadT, Bool.and_eq_true, decide_eq_true_eq, szOf] at hlt
        obtain ⟨i, hi, hk⟩ := Option.map_eq_some_iff.1 hlt.2
        have hlist := run_loadCells_list (P := P) w ⟨b, oo, none⟩ ((cs.toList.drop oo).take k) fun j u hu => by
          rw [Addr.add_mid, cell_of_heap hblk]
          simp only [List.getElem?_take, List.getElem?_drop, Array.getElem?_toList] at hu
          split at hu
          · exact hu
          · cases hu
        have hlen : ((cs.toList.drop oo).take k).length = k := by simp; omega
        rw [hlen] at hlist
        refine fin _ (by simp only [loadVar, Sem.run_bind, run_isAgg hlt.1, Result.andThen_ok, if_true, sizeOf, typeInfo]; simp [hi, hk, hlist]) q2 fun l hl => ?_
        subst hl
        obtain ⟨⟨_, hh, _⟩, _⟩ := q2
        cases hh
    · cases hr

theorem resN (hR : Rel X G s a w) : ∀ {rs : List RS} {ys : List ResultVar} {c : Prop} {l : List AV}, okRS P rs ys = true → resvs s rs = some (c, l) → c →
    ∃ us, (ys.mapM (resVal a.tmps)).run P w = .ok us w ∧ us.length = l.length ∧ rs.length = l.length ∧ ys.length = l.length ∧ ∀ (j : Nat) x u r, rs[j]? = some x → us[j]? = some u → l[j]? = some r → VR1 (fp X G) G.site w u r (at0 (own1 G s x)) := by
  intro rs
  induction rs with
  | nil =>
    intro ys c l h1 h2 _
    cases ys with
    | nil => simp only [resvs, Option.some.injEq, Prod.mk.injEq] at h2; obtain ⟨_, rfl⟩ := h2; exact ⟨[], by simp, rfl, rfl, rfl, fun j x u r h => by simp at h⟩
    | cons _ _ => simp [okRS] at h1
  | cons x rs ih =>
    intro ys c l h1 h2 hc
    cases ys with
    | nil => cases x <;> simp [okRS] at h1
    | cons y ys =>
      have hh : okRS P [x] [y] = true ∧ okRS P rs ys = true := by
        cases x <;> cases y <;> simp only [okRS, Bool.and_eq_true, Bool.false_eq_true, and_true, Bool.and_true] at h1 ⊢
        · exact h1
        · exact h1
      simp only [resvs] at h2
      split at h2
      · rename_i c1 a1 c2 l2 e1 e2
        simp only [Option.some.injEq, Prod.mk.injEq] at h2
        obtain ⟨rfl, rfl⟩ := h2
        obtain ⟨u, g1, g2⟩ := res1 hR hh.1 e1 hc.1
        obtain ⟨us, k1, k2, k3, k4, k5⟩ := ih hh.2 e2 hc.2
        refine ⟨u :: us, by simp [List.mapM_cons, g1, k1], by simp [k2], by simp [k3], by simp [k4], fun j x' u' r' q1 q2 q3 => ?_⟩
        cases j with
        | zero => simp at q1 q2 q3; subst q1 q2 q3; exact g2
        | succ j => exact k5 j x' u' r' (by simpa using q1) (by simpa using q2) (by simpa using q3)
      · cases h2

/-- What a function's results own. -/
def ownRes (G : Gh) (s : S) (rs : List RS) (j : Nat) : Option (Nat × Nat) := match rs with
  | [x] => at0 (own1 G s x) j
  | rs => (rs[j]?).bind (own1 G s)

theorem resAll (hR : Rel X G s a w) {fn : Func} {rs : List RS} {c : Prop} {r : AV} (hok : okRS P rs fn.results.toList = true) (hr : resA s rs = some (c, r)) (hc : c) :
    ∃ v, (results fn a.tmps).run P w = .ok v w ∧ VR2 (fp X G) G.site w v r (ownRes G s rs) := by
  have hres : (results fn a.tmps).run P w = ((fn.results.toList.mapM (resVal a.tmps)).run P w).andThen fun vs w => .ok (if h : vs.toArray.size = 1 then vs.toArray[0] else .tuple vs.toArray) w := by
    have e : results fn a.tmps = (fn.results.mapM (resVal a.tmps) >>= fun vs => pure (if h : vs.size = 1 then vs[0] else .tuple vs)) := by
      unfold results
      congr 2
    rw [e]
    rw [Array.mapM_eq_mapM_toList]
    simp only [Sem.run_bind, Sem.run_map]
    cases (fn.results.toList.mapM (resVal a.tmps)).run P w <;> simp
  rw [hres]
  have one : ∀ x y, rs = [x] → fn.results.toList = [y] → ∃ v, (((fn.results.toList.mapM (resVal a.tmps)).run P w).andThen fun vs w => .ok (if h : vs.toArray.size = 1 then vs.toArray[0] else .tuple vs.toArray) w) = .ok v w ∧ VR2 (fp X G) G.site w v r (ownRes G s rs) := fun x y hx hy => by
    subst hx
    rw [hy] at hok ⊢
    simp only [resA] at hr
    obtain ⟨u, g1, g2⟩ := res1 hR hok hr hc
    refine ⟨u, by simp [List.mapM_cons, g1], ?_⟩
    have hn : ∀ l, r ≠ .tup l := fun l hl => by subst hl; exact g2.1
    rw [VR2_eq hn]
    exact g2
  have many : ∀ l, resvs s rs = some (c, l) → r = .tup l → l.length ≠ 1 → (∀ j, ownRes G s rs j = (rs[j]?).bind (own1 G s)) → ∃ v, (((fn.results.toList.mapM (resVal a.tmps)).run P w).andThen fun vs w => .ok (if h : vs.toArray.size = 1 then vs.toArray[0] else .tuple vs.toArray) w) = .ok v w ∧ VR2 (fp X G) G.site w v r (ownRes G s rs) := fun l hl hr' hne how => by
    obtain ⟨us, k1, k2, k3, k4, k5⟩ := resN hR hok hl hc
    rw [k1]
    refine ⟨.tuple us.toArray, ?_, ?_⟩
    · have : ¬ us.toArray.size = 1 := by simp; omega
      simp only [Result.andThen_ok, this, dif_neg, not_false_iff]
    · subst hr'
      refine ⟨⟨us.toArray, rfl, by simp [k2], fun j c u hc hu => ?_⟩, fun j hj => ?_⟩
      · rw [how]
        have hj := (List.getElem?_eq_some_iff.1 hc).1
        have hx : rs[j]? = some (rs[j]'(by omega)) := List.getElem?_eq_getElem (by omega)
        rw [hx]
        exact k5 j _ u c hx (by simpa using hu) hc
      · rw [how, List.getElem?_eq_none (by omega)]
        rfl
  cases rs with
  | nil =>
    simp only [resA, resvs, Option.some.injEq, Prod.mk.injEq] at hr
    obtain ⟨rfl, rfl⟩ := hr
    exact many [] rfl rfl (by simp) fun j => rfl
  | cons x rs =>
    cases rs with
    | nil =>
      cases hy : fn.results.toList with
      | nil => rw [hy] at hok; cases x <;> simp [okRS] at hok
      | cons y ys =>
        cases ys with
        | nil => have := one x y rfl hy; rw [hy] at this; exact this
        | cons _ _ => rw [hy] at hok; cases x <;> cases y <;> simp [okRS] at hok
    | cons x' rs =>
      simp only [resA] at hr
      split at hr
      · rename_i c' l hl
        simp only [Option.some.injEq, Prod.mk.injEq] at hr
        obtain ⟨rfl, rfl⟩ := hr
        refine many l hl rfl ?_ fun j => rfl
        obtain ⟨us, _, _, k3, _⟩ := resN hR hok hl hc
        simp at k3
        omega
      · cases hr

/-- What is known of what a function answers. -/
def outGh (G : Gh) (s : S) (rs : List RS) (ns : List Nat) (m : Nat) : Gh :=
  ⟨fun x => if 2000 ≤ x then (ns[x - 2000]?).bind G.site else if 1000 ≤ x then G.site x else none,
   fun k j => match k with
    | .t i => if i = 0 then ownRes G s rs j else none
    | .m x => if 2000 ≤ x then (match ns[x - 2000]? with
      | some y => G.own (.m y) j
      | none => none) else if 1000 ≤ x ∧ x < 1000 + m then G.own (.m x) j else none⟩

theorem ownRes_spec {rs : List RS} {j b e : Nat} (h : ownRes G s rs j = some (b, e)) : ∃ n, rs[j]? = some (.t n) ∧ G.own (.t n) 0 = some (b, e) := by
  have key : ∀ x, own1 G s x = some (b, e) → ∃ n, x = .t n ∧ G.own (.t n) 0 = some (b, e) := fun x hx => by
    cases x with
    | t n =>
      simp only [own1] at hx
      split at hx
      · exact ⟨n, rfl, hx⟩
      · cases hx
    | cell n k => cases hx
  unfold ownRes at h
  split at h
  · rename_i x
    unfold at0 at h
    split at h
    · rename_i hj
      subst hj
      obtain ⟨n, rfl, h2⟩ := key x h
      exact ⟨n, rfl, h2⟩
    · cases h
  · obtain ⟨x, hx, h2⟩ := Option.bind_eq_some_iff.1 h
    obtain ⟨n, e1, h3⟩ := key x h2
    exact ⟨n, by rw [hx, e1], h3⟩

theorem flatT_get : ∀ {rs : List RS} {i j n : Nat}, (rs.flatMap rsT).Nodup → rs[i]? = some (.t n) → rs[j]? = some (.t n) → i = j := by
  intro rs
  induction rs with
  | nil => intro i j n _ h; simp at h
  | cons x rs ih =>
    intro i j n hnd hi hj
    rw [List.flatMap_cons, List.nodup_append] at hnd
    have no : ∀ (k : Nat), rs[k]? = some (RS.t n) → n ∈ rs.flatMap rsT := fun k hk => List.mem_flatMap.2 ⟨_, List.mem_of_getElem? hk, by simp [rsT]⟩
    cases i with
    | zero =>
      simp at hi
      subst hi
      cases j with
      | zero => rfl
      | succ j => exact absurd rfl (hnd.2.2 n (by simp [rsT]) n (no j (by simpa using hj)))
    | succ i =>
      cases j with
      | zero =>
        simp at hj
        subst hj
        exact absurd rfl (hnd.2.2 n (by simp [rsT]) n (no i (by simpa using hi)))
      | succ j => exact congrArg (· + 1) (ih hnd.2.1 (by simpa using hi) (by simpa using hj))

theorem Rel.args (h : Rel X G s ⟨a.tmps, []⟩ w) (m : Nat) : Rel X G s ⟨a.tmps ++ Array.replicate m Go.undef, []⟩ w := by
  refine ⟨fun t => ?_, h.mem, h.ownI, h.ownS, h.siteI, h.siteF, h.ownF, h.okS, h.okB, h.fr, rfl⟩
  have e : (a.tmps ++ Array.replicate m Go.undef).getD t Go.undef = a.tmps.getD t Go.undef := by
    simp only [Array.getD_eq_getD_getElem?, Array.getElem?_append]
    split
    · rfl
    · rename_i ht
      rw [Array.getElem?_eq_none (by omega : a.tmps.size ≤ t), Array.getElem?_replicate]
      split <;> rfl
  show VR2 (fp X G) G.site w ((a.tmps ++ Array.replicate m Go.undef).getD t Go.undef) (s (.t t)) (G.own (.t t))
  rw [e]
  exact h.tmp t

theorem MR.ren {fp fp' : Nat → Nat → Prop} {site site' : Nat → Option Nat} {f : Nat → Option Nat} (h : ∀ b o v, fp b o → w.cell? ⟨b, o, none⟩ = some v → fp' b o) (hs : ∀ x y b, f x = some y → site x = some b → site' y = some b) {c : AV} {bx : Option Nat} {ow : Nat → Option (Nat × Nat)} (hm : MR fp site w c bx ow) : MR fp' site' w (ren1 f c) bx ow := by
  cases c <;> first | exact hm | skip
  all_goals
    obtain ⟨b, cs, e, h1, h2, h3, h4⟩ := hm
    first
      | exact h4.elim
      | exact ⟨b, cs, e, h1, h2, h3.ren h hs, trivial⟩

/-- A function's contract out of its code. -/
theorem ACall.of {f : Nat} {fn : Func} {code : Code} {ir : IR} {rs : List RS} {ns : List Nat} {args lent : List AV} {r : AV} {lent' newc : List AV}
    (hf : P.funcs[f]? = some fn) (hb : fn.body = some code) (hok : (okIR P fn.ntmps ir code && okRS P rs fn.results.toList && decide (rs.flatMap rsT).Nodup && decide ns.Nodup && (ns.all fun x => decide (x < 1000)) && decide (args.length ≤ fn.ntmps)) = true)
    (hll : lent'.length ≤ 1000) (h : iwp P ir (sinOf args lent) (fun e s => (e = .normal ∨ e = .ret) ∧ RetOK rs ns s r lent' newc)) : ACall P f args lent r lent' newc := by
  simp only [Bool.and_eq_true, decide_eq_true_eq, List.all_eq_true] at hok
  obtain ⟨⟨⟨⟨⟨hir, hrs⟩, hnd⟩, hns⟩, hsm⟩, hargs⟩ := hok
  intro X G w vals hsz hw0 hR
  refine calls_of_wp hf hb ?_
  have hR1 := hR.args (a := ⟨vals, []⟩) (fn.ntmps - vals.size)
  refine wp_mono (codeSound (G0 := G) hir h hR1 (by simp; omega) fun _ _ => rfl) fun e a' w' hl => ?_
  obtain ⟨_, s', G', ⟨he, c, r0, hres, hc, hr, hl', hn'⟩, hR', hN', hG'⟩ := hl
  obtain ⟨v, hv, hvr⟩ := resAll hR' hrs hres hc
  have fin : a'.defers = [] ∧ ∃ v, (results fn a'.tmps).run P w' = .ok v w' ∧ ∃ v_1 G', Ending.returned v = .returned v_1 ∧ Rel X G' (soutOf r lent' newc) ⟨#[v_1], []⟩ w' ∧ (∀ x, x < 2000 → 1000 ≤ x → G'.site x = G.site x) ∧ ∀ x b, 2000 ≤ x → G'.site x = some b → w.heap.size ≤ b := by
    refine ⟨hR'.df, v, hv, v, outGh G' s' rs ns lent'.length, rfl, ?_, fun x h1 h2 => ?_, fun x b h1 h2 => ?_⟩
    · have hsite : ∀ x b, (outGh G' s' rs ns lent'.length).site x = some b → (∃ y, 2000 ≤ x ∧ ns[x - 2000]? = some y ∧ G'.site y = some b) ∨ (x < 2000 ∧ 1000 ≤ x ∧ G'.site x = some b) := fun x b hx => by
        simp only [outGh] at hx
        split at hx
        · obtain ⟨y, h1, h2⟩ := Option.bind_eq_some_iff.1 hx; exact Or.inl ⟨y, by assumption, h1, h2⟩
        · split at hx
          · exact Or.inr ⟨by omega, by assumption, hx⟩
          · cases hx
      have hown : ∀ k j b e, (outGh G' s' rs ns lent'.length).own k j = some (b, e) → (∃ n, k = .t 0 ∧ rs[j]? = some (.t n) ∧ G'.own (.t n) 0 = some (b, e)) ∨ (∃ x y, k = .m x ∧ 2000 ≤ x ∧ ns[x - 2000]? = some y ∧ G'.own (.m y) j = some (b, e)) ∨ (∃ x, k = .m x ∧ x < 2000 ∧ 1000 ≤ x ∧ G'.own (.m x) j = some (b, e)) := fun k j b e hk => by
        simp only [outGh] at hk
        split at hk
        · rename_i i
          split at hk
          · rename_i hi; subst hi
            obtain ⟨n, h1, h2⟩ := ownRes_spec hk
            exact Or.inl ⟨n, rfl, h1, h2⟩
          · cases hk
        · rename_i x
          split at hk
          · split at hk
            · rename_i y hy; exact Or.inr (Or.inl ⟨x, y, rfl, by assumption, hy, hk⟩)
            · cases hk
          · split at hk
            · rename_i hh; exact Or.inr (Or.inr ⟨x, rfl, by omega, hh.1, hk⟩)
            · cases hk
      have hown2 : ∀ k j b e, (outGh G' s' rs ns lent'.length).own k j = some (b, e) → ∃ k' j', G'.own k' j' = some (b, e) := fun k j b e hk => by
        rcases hown k j b e hk with ⟨n, _, _, q⟩ | ⟨x, y, _, _, _, q⟩ | ⟨x, _, _, _, q⟩ <;> exact ⟨_, _, q⟩
      have hsite2 : ∀ x b, (outGh G' s' rs ns lent'.length).site x = some b → ∃ y, G'.site y = some b := fun x b hx => by
        rcases hsite x b hx with ⟨y, _, _, q⟩ | ⟨_, _, q⟩ <;> exact ⟨_, q⟩
      have hsafe : ∀ b o, G'.safe b o → (outGh G' s' rs ns lent'.length).safe b o := fun b o hs => ⟨fun x hx => by
          obtain ⟨y, q⟩ := hsite2 x b hx; exact hs.1 y q, fun k j e he => by
          obtain ⟨k', j', q⟩ := hown2 k j b e he; exact hs.2 _ _ _ q⟩
      have hfp : ∀ b o v, fp X G' b o → w'.cell? ⟨b, o, none⟩ = some v → fp X (outGh G' s' rs ns lent'.length) b o := fun b o v hf hc => ⟨hf.1, hsafe b o hf.2⟩
      have hren : ∀ x y b, outF ns x = some y → G'.site x = some b → (outGh G' s' rs ns lent'.length).site y = some b := fun x y b hx hb => by
        unfold outF at hx
        split at hx
        · split at hx
          · cases hx
            simp only [outGh]
            rw [if_neg (by omega), if_pos (by assumption)]
            exact hb
          · cases hx
        · rw [Option.map_eq_some_iff] at hx
          obtain ⟨k, hk, rfl⟩ := hx
          simp only [outGh]
          rw [if_pos (by omega), show 2000 + k - 2000 = k by omega, idx_back hk]
          exact hb
      refine ⟨fun t => ?_, fun x => ?_, fun k j k' j' b e e' h1 h2 => ?_, fun k j b e x h1 h2 => ?_, fun x y b h1 h2 => ?_, fun x b h1 => ?_, fun k j b e h1 => ?_, fun b o ho => hsafe b o (hR'.okS b o ho), hR'.okB, hR'.fr, rfl⟩
      · by_cases ht : t = 0
        · subst ht
          have e1 : (outGh G' s' rs ns lent'.length).own (.t 0) = ownRes G' s' rs := by funext j; simp [outGh]
          rw [e1]
          show VR2 _ _ w' v (soutOf r lent' newc (.t 0)) _
          simp only [soutOf, if_true]
          rw [hr]
          exact hvr.ren hfp hren
        · have e1 : (outGh G' s' rs ns lent'.length).own (.t t) = fun _ => none := by funext j; simp [outGh, ht]
          rw [e1]
          simp only [soutOf, if_neg ht]
          exact VR2.undef _
      · simp only [soutOf]
        by_cases h2 : 2000 ≤ x
        · rw [if_pos h2, List.getD_eq_getElem?_getD, hn', List.getElem?_map]
          cases hx : ns[x - 2000]? with
          | none =>
            have e1 : (outGh G' s' rs ns lent'.length).own (.m x) = fun _ => none := by funext j; simp [outGh, h2, hx]
            rw [e1]
            exact fun _ => rfl
          | some y =>
            have e1 : (outGh G' s' rs ns lent'.length).own (.m x) = G'.own (.m y) := by funext j; simp [outGh, h2, hx]
            have e2 : (outGh G' s' rs ns lent'.length).site x = G'.site y := by simp [outGh, h2, hx]
            rw [e1, e2]
            exact MR.ren hfp hren (hR'.mem y)
        · rw [if_neg h2]
          by_cases h3 : 1000 ≤ x
          · rw [if_pos h3, List.getD_eq_getElem?_getD]
            have e2 : (outGh G' s' rs ns lent'.length).site x = G'.site x := by simp [outGh, h2, h3]
            cases hx : lent'[x - 1000]? with
            | some c =>
              have hk : x - 1000 < lent'.length := (List.getElem?_eq_some_iff.1 hx).1
              have e1 : (outGh G' s' rs ns lent'.length).own (.m x) = G'.own (.m x) := by funext j; simp [outGh, h2, h3, show x < 1000 + lent'.length by omega]
              rw [e1, e2]
              have hc2 : c = ren1 (outF ns) (s' (.m x)) := by
                rw [hl', List.getElem?_map, List.getElem?_range hk] at hx
                simp only [Option.map_some, Option.some.injEq] at hx
                rw [← hx, show 1000 + (x - 1000) = x by omega]
              show MR _ _ w' c _ _
              rw [hc2]
              exact MR.ren hfp hren (hR'.mem x)
            | none =>
              rw [List.getElem?_eq_none_iff] at hx
              have e1 : (outGh G' s' rs ns lent'.length).own (.m x) = fun _ => none := by funext j; simp [outGh, h2, show ¬ x < 1000 + lent'.length by omega]
              rw [e1]
              exact fun _ => rfl
          · rw [if_neg h3]
            intro j
            simp [outGh, h2, h3]
      · rcases hown k j b e h1 with ⟨n, rfl, p2, p3⟩ | ⟨x, y, rfl, p2, p3, p4⟩ | ⟨x, rfl, p2, p3, p4⟩ <;> rcases hown k' j' b e' h2 with ⟨n', rfl, q2, q3⟩ | ⟨x', y', rfl, q2, q3, q4⟩ | ⟨x', rfl, q2, q3, q4⟩
        · have := (hR'.ownI _ _ _ _ _ _ _ p3 q3).1
          cases this
          exact ⟨rfl, flatT_get hnd p2 q2⟩
        · cases (hR'.ownI _ _ _ _ _ _ _ p3 q4).1
        · cases (hR'.ownI _ _ _ _ _ _ _ p3 q4).1
        · cases (hR'.ownI _ _ _ _ _ _ _ p4 q3).1
        · obtain ⟨e1, e2⟩ := hR'.ownI _ _ _ _ _ _ _ p4 q4
          cases e1
          have := nodup_get hns p3 q3
          exact ⟨by rw [show x = x' by omega], e2⟩
        · obtain ⟨e1, _⟩ := hR'.ownI _ _ _ _ _ _ _ p4 q4
          cases e1
          have := hsm _ (List.mem_of_getElem? p3)
          omega
        · cases (hR'.ownI _ _ _ _ _ _ _ p4 q3).1
        · obtain ⟨e1, _⟩ := hR'.ownI _ _ _ _ _ _ _ p4 q4
          cases e1
          have := hsm _ (List.mem_of_getElem? q3)
          omega
        · obtain ⟨e1, e2⟩ := hR'.ownI _ _ _ _ _ _ _ p4 q4
          exact ⟨e1, e2⟩
      · obtain ⟨k', j', q1⟩ := hown2 _ _ _ _ h1
        obtain ⟨y, q2⟩ := hsite2 _ _ h2
        exact hR'.ownS _ _ _ _ _ q1 q2
      · rcases hsite x b h1 with ⟨z, p1, p2, p3⟩ | ⟨p1, p2, p3⟩ <;> rcases hsite y b h2 with ⟨z', q1, q2, q3⟩ | ⟨q1, q2, q3⟩
        · have := hR'.siteI _ _ _ p3 q3
          subst this
          have := nodup_get hns p2 q2
          omega
        · have := hR'.siteI _ _ _ p3 q3
          subst this
          have := hsm _ (List.mem_of_getElem? p2)
          omega
        · have := hR'.siteI _ _ _ p3 q3
          subst this
          have := hsm _ (List.mem_of_getElem? q2)
          omega
        · exact hR'.siteI _ _ _ p3 q3
      · rcases hsite x b h1 with ⟨z, p1, p2, p3⟩ | ⟨p1, p2, p3⟩
        · obtain ⟨g1, g2⟩ := hR'.siteF _ _ p3
          exact ⟨g1, g2.imp id fun h => ⟨h.1, by omega⟩⟩
        · exact hR'.siteF _ _ p3
      · obtain ⟨k', j', q1⟩ := hown2 _ _ _ _ h1
        exact hR'.ownF _ _ _ _ q1
    · simp only [outGh]
      rw [if_neg (by omega), if_pos h2]
      exact hG' x h2
    · simp only [outGh] at h2
      rw [if_pos h1] at h2
      obtain ⟨y, q1, q2⟩ := Option.bind_eq_some_iff.1 h2
      have hy := hsm _ (List.mem_of_getElem? q1)
      rcases (hR'.siteF _ _ q2).2 with q | q
      · rw [hw0] at q; exact q
      · omega
  rcases he with rfl | rfl
  · exact fin
  · exact fin
end
end Go.Abs
