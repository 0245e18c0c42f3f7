/- The abstract machine's operations on memory answer as the model's do: stores, moves out of and into variables, appends. No condition. -/
import Derived.Test.YtgnajpfackfcaaaAbsK
set_option linter.unusedVariables false
set_option linter.unusedSimpArgs false
namespace Go.Abs
open Go.RowKit

section
variable {P : Program} {X : Ctx} {G G' : Gh} {s s' : S} {a : Act} {w w' : World} {o : Oper} {c : Prop} {U : List (Key × AV)} {v : Value} {N : Nat} {mk : List Nat}
variable {fp : Nat → Nat → Prop} {site : Nat → Option Nat}

/-- A variable is written. -/
theorem run_store {t : TypeId} {b oo k : Nat} {vs : List Value} {u : Value} {cs : Array Value} {e : TypeId} (hblk : w.heap[b]? = some (.cells cs e (0, 0))) (hu : u.cells.toList = vs) (hk : vs.length = k) (hsz : szOf P t k = true) (hfit : oo + k ≤ cs.size) (h1 : ∀ x ∈ vs, x.oneCell' = true) :
    (Instr.storeAt t (.pointer (some ⟨b, oo, none⟩)) u).run P w = .ok () (w.setRow b (cs.toList.take oo ++ vs ++ cs.toList.drop (oo + vs.length)).toArray) := by
  have := run_storeCells_at P b oo e vs 0 cs w hblk (by omega) h1
  simp only [szOf, decide_eq_true_eq] at hsz
  obtain ⟨i, hi, hn⟩ := Option.map_eq_some_iff.1 hsz
  have hcs : u.cells.size = k := by rw [← hk, ← hu]; simp
  simp only [Instr.storeAt, Instr.sureAddr, storeVar, Sem.run_bind, Sem.run_pure, Result.andThen_ok, sizeOf, typeInfo]
  simp [hi, hn, hcs, hu, this]

def owR (own : Key → Nat → Option (Nat × Nat)) (y : Nat) (f : Nat → Option (Nat × Nat)) : Key → Nat → Option (Nat × Nat) := fun k j => if k = .m y then f j else own k j

/-- A store that moves nothing. -/
theorem Rel.storeSite (h : Rel X G s a w) {y b : Nat} (hy : G.site y = some b) {cs cs' : Array Value} {e : TypeId} (hb : w.heap[b]? = some (.cells cs e (0, 0))) {r : AV} (f : Nat → Option (Nat × Nat)) (hf : ∀ j be, f j = some be → G.own (.m y) j = some be)
    (hc : VR1 (Abs.fp X G) G.site w (.agg cs') r f) (hagg : r.isAgg) : Rel X { G with own := owR G.own y f } (s.up (.m y) r) a (w.setRow b cs') := by
  have hsub : ∀ k j be, owR G.own y f k j = some be → G.own k j = some be := fun k j be hk => by
    unfold owR at hk
    split at hk
    · rename_i hky; subst hky; exact hf j be hk
    · exact hk
  refine h.setSite hy hb (owR G.own y f) (fun k j be hk => ⟨k, j, hsub k j be hk⟩) (fun k j k' j' b e e' h1 h2 => h.ownI _ _ _ _ _ _ _ (hsub _ _ _ h1) (hsub _ _ _ h2)) (fun t => ?_) (fun x hx => ?_) ?_ ?_ h.df
  · rw [S.up_other _ _ (by simp)]
    have e1 : owR G.own y f (.t t) = G.own (.t t) := by funext j; simp [owR]
    rw [e1]
    exact h.tmp t
  · rw [S.up_other _ _ (by simp [hx])]
    have e1 : owR G.own y f (.m x) = G.own (.m x) := by funext j; simp [owR, hx]
    rw [e1]
    exact h.mem x
  · rw [S.up_same]
    have e1 : owR G.own y f (.m y) = f := by funext j; simp [owR]
    rw [e1]
    exact hc
  · rw [S.up_same]; exact hagg

theorem agg_one {lv : List AV} {vs : Array Value} (hv : V2 fp site w (.agg vs) (.agg lv)) (hst : lv.all AV.storable = true) : ∀ x ∈ vs.toList, x.oneCell' = true := by
  obtain ⟨⟨vs', e, h1, h2⟩, _⟩ := hv
  cases e
  intro x hx
  obtain ⟨j, hj⟩ := List.getElem?_of_mem hx
  have hjl : j < lv.length := by rw [← h1, ← Array.length_toList]; exact (List.getElem?_eq_some_iff.1 hj).1
  have := h2 j _ x (List.getElem?_eq_getElem hjl) (by simpa using hj)
  exact (this.one (List.all_eq_true.1 hst _ (List.getElem_mem hjl))).1

theorem putA_isAgg {z v r : AV} {oo : Nat} (h : putA z oo v = some (c, r)) : z.isAgg := by
  cases z <;> first | trivial | simp [putA] at h

theorem storeA_isAgg {z v r : AV} {oo : Nat} {n : Option (Nat × Bool)} (h : storeA z oo v n = some (c, r)) : z.isAgg := by
  cases n with
  | none =>
    simp only [storeA] at h
    split at h
    · exact putA_isAgg h
    · cases h
  | some kw =>
    obtain ⟨k, wh⟩ := kw
    cases wh
    · cases v <;> simp only [storeA, Option.map_eq_some_iff, reduceCtorEq] at h
      · obtain ⟨⟨c', r'⟩, h, _⟩ := h; exact putA_isAgg h
      · obtain ⟨⟨c', r'⟩, h, _⟩ := h; exact putA_isAgg h
    · cases z <;> first | trivial | (cases v <;> simp [storeA] at h)

/-- What a store leaves of a variable's cells. -/
theorem storeA_sound {z v0 r : AV} {oo : Nat} {n : Option (Nat × Bool)} {cs : Array Value} {ow : Nat → Option (Nat × Nat)} {u : Value} {t : TypeId} (hz : VR1 fp site w (.agg cs) z ow) (hw : V2 fp site w u v0) (ht : okLoadT P t n = true) (hs : storeA z oo v0 n = some (c, r)) (hc : c) :
    ∃ k, u.cells.size = k ∧ szOf P t k = true ∧ oo + k ≤ cs.size ∧ (∀ x ∈ u.cells.toList, x.oneCell' = true) ∧ ∃ f, (∀ j be, f j = some be → ow j = some be) ∧ VR1 fp site w (.agg (spl cs oo u.cells)) r f ∧ r.isAgg := by
  have hagg := storeA_isAgg hs
  cases n with
  | none =>
    simp only [storeA] at hs
    split at hs
    · rename_i hst
      have hv0 := V2_VR0 hw hst
      obtain ⟨h1, h2⟩ := hv0.one hst
      obtain ⟨q1, q2, q3⟩ := put0 hz hagg hv0 hst hs hc
      simp only [okLoadT, Bool.and_eq_true] at ht
      rw [h2]
      refine ⟨1, rfl, ht.2, q1, by simpa using h1, _, fun j be hj => ?_, by rw [spl_one q1]; exact q2, q3⟩
      unfold ow1 at hj
      split at hj
      · cases hj
      · exact hj
    · cases hs
  | some kw =>
    obtain ⟨k, wh⟩ := kw
    simp only [okLoadT, Bool.and_eq_true] at ht
    have hva : v0.isAgg := by cases wh <;> cases v0 <;> first | trivial | (simp [storeA] at hs; done) | (cases z <;> simp [storeA] at hs)
    have hw1 := V2_VR1 hw hva
    obtain ⟨vs, rfl⟩ : ∃ vs, u = .agg vs := by
      cases v0 <;> simp only [AV.isAgg] at hva
      · obtain ⟨⟨vs, rfl, _⟩, _⟩ := hw1; exact ⟨vs, rfl⟩
      · obtain ⟨⟨vs, rfl, _⟩, _⟩ := hw1; exact ⟨vs, rfl⟩
    have hvs : vs.size = avSize v0 := by
      cases v0 <;> simp only [AV.isAgg] at hva
      · obtain ⟨⟨vs', e, h1⟩, _⟩ := hw1; cases e; simpa [avSize] using h1.1
      · obtain ⟨⟨vs', e, h1, _⟩, _⟩ := hw1; cases e; exact h1
    have hzs : cs.size = avSize z := by
      cases z <;> simp only [AV.isAgg] at hagg
      · obtain ⟨⟨vs', e, h1⟩, _⟩ := hz; cases e; simpa [avSize] using h1.1
      · obtain ⟨⟨vs', e, h1, _⟩, _⟩ := hz; cases e; exact h1
    have hone : (∀ lv, v0 = .agg lv → lv.all AV.storable = true) → ∀ x ∈ vs.toList, x.oneCell' = true := fun hh => by
      cases v0 <;> simp only [AV.isAgg] at hva
      · obtain ⟨⟨vs', e, h1⟩, _⟩ := hw1; cases e; exact h1.one
      · exact agg_one hw (hh _ rfl)
    cases wh
    · have hp : ∃ c', putA z oo v0 = some (c', r) ∧ c' ∧ avSize v0 = k := by
        cases v0 <;> simp only [AV.isAgg] at hva <;> simp only [storeA, Option.map_eq_some_iff, Prod.mk.injEq] at hs
        all_goals
          obtain ⟨⟨c', r'⟩, h1, h2, h3⟩ := hs
          dsimp only at h3 h2
          subst h3
          subst h2
          exact ⟨c', h1, hc.2, hc.1⟩
      obtain ⟨c', hp, hc', hk⟩ := hp
      obtain ⟨q1, q2, q3, q4⟩ := putN hz hagg hw1 hva hp hc'
      refine ⟨k, by rw [← hk]; exact hvs, ht.2, by omega, hone fun lv hlv => ?_, _, fun j be hj => ?_, q2, q3⟩
      · subst hlv
        cases z <;> simp only [AV.isAgg] at hagg <;> simp only [putA, Option.some.injEq, Prod.mk.injEq] at hp <;> obtain ⟨rfl, rfl⟩ := hp <;> exact hc'.2
      · unfold owN at hj
        split at hj
        · cases hj
        · exact hj
    · have hfin : oo = 0 ∧ avSize v0 = k ∧ avSize z = k ∧ r = v0 ∧ ∀ lv, v0 = .agg lv → lv.all AV.storable = true := by
        cases z <;> simp only [AV.isAgg] at hagg <;> cases v0 <;> simp only [AV.isAgg] at hva <;> simp only [storeA, Option.some.injEq, Prod.mk.injEq] at hs <;> obtain ⟨rfl, rfl⟩ := hs
        · exact ⟨hc.1, hc.2.1, hc.2.2, rfl, fun lv h => by cases h⟩
        · exact ⟨hc.1, hc.2.1, hc.2.2.1, rfl, fun lv h => by cases h; exact hc.2.2.2⟩
        · exact ⟨hc.1, hc.2.1, hc.2.2, rfl, fun lv h => by cases h⟩
        · exact ⟨hc.1, hc.2.1, hc.2.2.1, rfl, fun lv h => by cases h; exact hc.2.2.2⟩
      obtain ⟨rfl, hk, hk2, rfl, hall⟩ := hfin
      refine ⟨k, by rw [← hk]; exact hvs, ht.2, by omega, hone hall, fun _ => none, fun j be hj => (by cases hj), ?_, hva⟩
      have e1 : spl cs 0 (Value.agg vs).cells = vs := by
        simp only [spl, List.take_zero, List.nil_append, Nat.zero_add, Value.cells]
        rw [List.drop_of_length_le (by simp; omega), List.append_nil]
      rw [e1]
      exact hw1

theorem i_store {n : Option (Nat × Bool)} {st : Option Nat} {x v : Opd} (hR : Rel X G s a w) (hok : okI P N (.store n st x v) o = true) (he : eff s (.store n st x v) = some (c, U)) (hc : c) : Nxt P X G o a w (s.ups U) mk := by
  simp only [okI, Bool.and_eq_true, decide_eq_true_eq] at hok
  obtain ⟨hd, h2⟩ := hok
  split at h2
  · rename_i t y u hop
    simp only [Bool.and_eq_true] at h2
    obtain ⟨⟨ht, hx⟩, hu⟩ := h2
    have hv : V2 (Abs.fp X G) G.site w (a.eval y) (ev s x).dem2 := hR.opd _ _ hx
    have hw : V2 (Abs.fp X G) G.site w (a.eval u) (ev s v).dem2 := hR.opd _ _ hu
    simp only [eff] at he
    split at he
    · rename_i yy oo hev
      rw [hev] at hv
      obtain ⟨b, hb, hav⟩ := hv.ptr
      split at he
      · split at he
        · rename_i c' r hl
          cases he
          obtain ⟨cs, e, hblk, hz⟩ := hR.block hb (storeA_isAgg hl)
          obtain ⟨k, h1, h3, h4, h5, f, h6, h7, h8⟩ := storeA_sound hz hw ht hl hc
          have hrun := run_store (P := P) (u := a.eval u) hblk rfl (by simpa using h1) h3 h4 h5
          have e1 : (cs.toList.take oo ++ (a.eval u).cells.toList ++ cs.toList.drop (oo + (a.eval u).cells.toList.length)).toArray = spl cs oo (a.eval u).cells := by simp [spl]
          rw [e1] at hrun
          exact Nxt.skip (G' := { G with own := owR G.own yy f }) (by simp only [execOp, hop, hav, Sem.run_bind, hrun, Result.andThen_ok]; rfl) hd (hR.storeSite hb hblk f h6 h7 h8) fun _ _ => rfl
        · cases he
      · cases he
    · cases he
  · cases h2

theorem os_one {e sz : Nat} {es : List (List PV)} {ow : Option (Nat × Nat)} (h : OSR fp w v e sz es ow) : v.oneCell' = true ∧ v.cells = #[v] := by
  obtain ⟨xs, h1, _⟩ := h
  rcases h1.2 with ⟨rfl, _⟩ | ⟨g, cap, cur, rfl, _⟩ <;> exact ⟨rfl, rfl⟩

def mvTM (own : Key → Nat → Option (Nat × Nat)) (n y oo : Nat) : Key → Nat → Option (Nat × Nat) := fun k j => if k = .m y ∧ j = oo then own (.t n) 0 else if k = .t n then none else own k j
def mvMT (own : Key → Nat → Option (Nat × Nat)) (y oo d : Nat) : Key → Nat → Option (Nat × Nat) := fun k j => if k = .t d then (if j = 0 then own (.m y) oo else none) else if k = .m y ∧ j = oo then none else own k j

theorem i_storemv {st : Option Nat} {x : Opd} {n : Nat} (hR : Rel X G s a w) (hok : okI P N (.storemv st x n) o = true) (he : eff s (.storemv st x n) = some (c, U)) (hc : c) : Nxt P X G o a w (s.ups U) mk := by
  simp only [okI, Bool.and_eq_true, decide_eq_true_eq] at hok
  obtain ⟨hd, h2⟩ := hok
  split at h2
  · rename_i t y m hop
    simp only [Bool.and_eq_true, beq_iff_eq] at h2
    obtain ⟨⟨ht, hx⟩, rfl⟩ := h2
    have hv : V2 (Abs.fp X G) G.site w (a.eval y) (ev s x).dem2 := hR.opd _ _ hx
    simp only [eff] at he
    split at he
    · rename_i yy oo hev
      rw [hev] at hv
      obtain ⟨b, hb, hav⟩ := hv.ptr
      split at he
      · split at he
        · rename_i e sz es hsn
          have htn := hR.tmp m
          rw [hsn] at htn
          obtain ⟨hos, hos2⟩ := htn
          have hone := os_one hos
          have key : ∀ (l : List AV) (z : AV), s (.m yy) = z → z.isAgg → putA z oo (.os e sz es) = some (oo < l.length, .agg (l.set oo (.os e sz es))) → oo < l.length →
              Nxt P X G o a w (s.ups [(.t m, .pv (.sl sz es)), (.m yy, .agg (l.set oo (.os e sz es)))]) mk := by
            intro l z hz hagg hput hlt
            obtain ⟨cs, et, hblk, hzv⟩ := hR.block hb (by rw [hz]; exact hagg)
            rw [hz] at hzv
            obtain ⟨q1, q2, q3⟩ := put0 (ov := G.own (.t m) 0) hzv hagg (v0 := .os e sz es) hos rfl hput hlt
            simp only [okLoadT, Bool.and_eq_true] at ht
            have hev : a.eval (.tmp m) = a.tmps.getD m Go.undef := rfl
            have hrun := run_store (P := P) (t := t) (u := a.eval (.tmp m)) (vs := [a.tmps.getD m Go.undef]) (k := 1) (oo := oo) hblk (by rw [hev, hone.2]) rfl ht.2 q1 (by simpa using hone.1)
            have e1 : (cs.toList.take oo ++ [a.tmps.getD m Go.undef] ++ cs.toList.drop (oo + [a.tmps.getD m Go.undef].length)).toArray = cs.setIfInBounds oo (a.tmps.getD m Go.undef) := by rw [← spl_one q1]; simp [spl]
            rw [e1] at hrun
            refine Nxt.skip (G' := { G with own := mvTM G.own m yy oo }) (by simp only [execOp, hop, hav, Sem.run_bind, hrun, Result.andThen_ok]; rfl) hd (hR.setSite hb hblk _ (fun k j be hk => ?_) (fun k j k' j' b1 e2 e3 h1 h2 => ?_) (fun t => ?_) (fun x hx => ?_) ?_ ?_ hR.df) fun _ _ => rfl
            · unfold mvTM at hk
              split at hk
              · exact ⟨_, _, hk⟩
              · split at hk
                · cases hk
                · exact ⟨_, _, hk⟩
            · unfold mvTM at h1 h2
              split at h1
              · rename_i p1
                split at h2
                · rename_i p2
                  exact ⟨p1.1.trans p2.1.symm, p1.2.trans p2.2.symm⟩
                · split at h2
                  · cases h2
                  · rename_i p2 p3
                    exact absurd (hR.ownI _ _ _ _ _ _ _ h1 h2).1.symm p3
              · split at h1
                · cases h1
                · rename_i p1 p3
                  split at h2
                  · exact absurd (hR.ownI _ _ _ _ _ _ _ h1 h2).1 p3
                  · split at h2
                    · cases h2
                    · exact hR.ownI _ _ _ _ _ _ _ h1 h2
            · simp only [S.ups]
              rw [S.up_other _ _ (by simp)]
              by_cases htm : t = m
              · subst htm
                rw [S.up_same]
                have e2 : mvTM G.own t yy oo (.t t) = fun _ => none := by funext j; simp [mvTM]
                rw [e2]
                exact V2.of0 (VR0.dem (a := .os e sz es) hos fun g e he o ho => hR.ownfp he ho)
              · rw [S.up_other _ _ (by simp [htm])]
                have e2 : mvTM G.own m yy oo (.t t) = G.own (.t t) := by funext j; simp [mvTM, htm]
                rw [e2]
                exact hR.tmp t
            · simp only [S.ups]
              rw [S.up_other _ _ (by simp [hx]), S.up_other _ _ (by simp)]
              have e2 : mvTM G.own m yy oo (.m x) = G.own (.m x) := by funext j; simp [mvTM, hx]
              rw [e2]
              exact hR.mem x
            · simp only [S.ups]
              rw [S.up_same]
              have e2 : mvTM G.own m yy oo (.m yy) = ow1 (G.own (.m yy)) oo (G.own (.t m) 0) := by funext j; simp [mvTM, ow1]
              rw [e2]
              exact q2
            · simp only [S.ups]
              rw [S.up_same]
              trivial
          split at he
          · rename_i l hz
            cases he
            have := key (l.map AV.pv) _ hz trivial (by simp [putA, AV.storable]) (by simpa using hc)
            simpa using this
          · rename_i l hz
            cases he
            exact key l _ hz trivial (by simp [putA, AV.storable]) hc
          · cases he
        · cases he
      · cases he
    · cases he
  · cases h2

theorem i_loadmv {d : Nat} {st : Option Nat} {x : Opd} (hR : Rel X G s a w) (hN : a.tmps.size = N) (hok : okI P N (.loadmv d st x) o = true) (he : eff s (.loadmv d st x) = some (c, U)) (hc : c) : Nxt P X G o a w (s.ups U) mk := by
  simp only [okI, Bool.and_eq_true] at hok
  obtain ⟨h1, h2⟩ := hok
  obtain ⟨hd, hlt⟩ := okDst_spec h1
  split at h2
  · rename_i t y hop
    simp only [Bool.and_eq_true] at h2
    obtain ⟨ht, hx⟩ := h2
    have hv : V2 (Abs.fp X G) G.site w (a.eval y) (ev s x).dem2 := hR.opd _ _ hx
    simp only [eff] at he
    split at he
    · rename_i yy oo hev
      rw [hev] at hv
      obtain ⟨b, hb, hav⟩ := hv.ptr
      split at he
      · split at he
        · rename_i l hz
          split at he
          · rename_i e sz es hl
            cases he
            obtain ⟨cs, et, hblk, hzv⟩ := hR.block hb (by rw [hz]; trivial)
            rw [hz] at hzv
            have hzv0 := hzv
            obtain ⟨⟨cs', e1, h3, h4⟩, h5⟩ := hzv
            cases e1
            have hlt2 : oo < cs.size := by rw [h3]; exact (List.getElem?_eq_some_iff.1 hl).1
            have hu := h4 oo _ cs[oo] hl (Array.getElem?_eq_getElem hlt2)
            have hcell : w.cell? ⟨b, oo, none⟩ = some cs[oo] := by rw [cell_of_heap hblk, Array.getElem?_eq_getElem hlt2]
            have hrun : (Instr.loadAt t (a.eval y)).run P w = .ok cs[oo] w := by
              generalize cs[oo] = u at hcell
              simp [hav, Instr.loadAt, Instr.sureAddr, loadVar, run_isAgg (loadT_none ht), hcell]
            refine Nxt.value (G' := { G with own := mvMT G.own yy oo d }) (v := cs[oo]) (by simp only [execOp, hop, Sem.run_bind, hrun, Result.andThen_ok]; rfl) ?_ fun _ _ => rfl
            rw [hd]
            refine hR.same _ (fun k j be hk => ?_) (fun k j k' j' b1 e2 e3 g1 g2 => ?_) (fun t => ?_) (fun x => ?_) ((put_defers _ _ _).trans hR.df)
            · unfold mvMT at hk
              split at hk
              · split at hk
                · exact ⟨_, _, hk⟩
                · cases hk
              · split at hk
                · cases hk
                · exact ⟨_, _, hk⟩
            · have key : ∀ k j e, mvMT G.own yy oo d k j = some (b1, e) → (k = .t d ∧ j = 0 ∧ G.own (.m yy) oo = some (b1, e)) ∨ (k ≠ .t d ∧ ¬ (k = .m yy ∧ j = oo) ∧ G.own k j = some (b1, e)) := fun k j e hk => by
                unfold mvMT at hk
                split at hk
                · split at hk
                  · exact Or.inl ⟨by assumption, by assumption, hk⟩
                  · cases hk
                · split at hk
                  · cases hk
                  · exact Or.inr ⟨by assumption, by assumption, hk⟩
              rcases key _ _ _ g1 with ⟨r1, r2, r3⟩ | ⟨r1, r2, r3⟩ <;> rcases key _ _ _ g2 with ⟨p1, p2, p3⟩ | ⟨p1, p2, p3⟩
              · exact ⟨r1.trans p1.symm, r2.trans p2.symm⟩
              · have := hR.ownI _ _ _ _ _ _ _ r3 p3; exact absurd ⟨this.1.symm, this.2.symm⟩ p2
              · have := hR.ownI _ _ _ _ _ _ _ r3 p3; exact absurd ⟨this.1, this.2⟩ r2
              · exact hR.ownI _ _ _ _ _ _ _ r3 p3
            · simp only [S.ups]
              by_cases htd : t = d
              · subst htd
                rw [getD_put_same (by rw [hN]; exact hlt), S.up_same]
                have e2 : mvMT G.own yy oo t (.t t) = at0 (G.own (.m yy) oo) := by funext j; simp [mvMT, at0]
                rw [e2]
                exact ⟨hu, fun j hj => by simp [at0, show j ≠ 0 by omega]⟩
              · rw [getD_put_other htd, S.up_other _ _ (by simp [htd]), S.up_other _ _ (by simp)]
                have e2 : mvMT G.own yy oo d (.t t) = G.own (.t t) := by funext j; simp [mvMT, htd]
                rw [e2]
                exact hR.tmp t
            · simp only [S.ups]
              rw [S.up_other _ _ (by simp)]
              by_cases hxy : x = yy
              · subst hxy
                rw [S.up_same]
                have e2 : mvMT G.own x oo d (.m x) = ow1 (G.own (.m x)) oo none := by funext j; simp [mvMT, ow1]
                rw [e2]
                have hlt3 : oo < l.length := by omega
                obtain ⟨q1, q2, q3⟩ := put0 (o := oo) (ov := none) (c := oo < l.length) (r := .agg (l.set oo (.pv (.sl sz es)))) hzv0 trivial (v0 := .pv (.sl sz es)) (u := cs[oo]) (VR0.dem (a := .os e sz es) hu fun g e he o ho => hR.ownfp he ho) rfl (by simp [putA, AV.storable]) hlt3
                have e3 : cs.setIfInBounds oo cs[oo] = cs := by
                  apply Array.ext_getElem?
                  intro j
                  rw [Array.getElem?_setIfInBounds]
                  split
                  · rename_i hj; subst hj; simp [hlt2]
                  · rfl
                rw [e3] at q2
                exact ⟨b, cs, et, hb, hblk, q2, trivial⟩
              · rw [S.up_other _ _ (by simp [hxy])]
                have e2 : mvMT G.own yy oo d (.m x) = G.own (.m x) := by funext j; simp [mvMT, hxy]
                rw [e2]
                exact hR.mem x
          · cases he
        · cases he
      · cases he
    · cases he
  · cases h2

/-- The cells of what is appended. -/
theorem PR.rows {sz : Nat} {es : List (List PV)} (h : PR fp w v (.sl sz es)) (hn : es ≠ []) : ∃ A cap news, v = .slice A es.length cap ∧ news.length = es.length * sz ∧ PRs fp w news es.flatten ∧ (∃ ad, A = some ad ∧ ∀ (j : Nat) u, news[j]? = some u → w.cell? (ad.add j) = some u) ∧ ∀ r ∈ es, r.length = sz := by
  classical
  obtain ⟨A, cap, rfl, _, _, _, hne⟩ := h.slInv
  obtain ⟨b, oo, rfl, hl, hcell⟩ := hne hn
  have hfl := flat_len hl
  have hg : ∀ (j : Nat) p, es.flatten[j]? = some p → ∃ u, w.cell? ⟨b, oo + j, none⟩ = some u ∧ PR fp w u p := fun j p hp => by
    obtain ⟨i, r, k, h1, h2, rfl⟩ := flat_get hl hp
    obtain ⟨_, u, hu, hpr⟩ := hcell _ _ _ _ h1 h2
    exact ⟨u, by rw [← Nat.add_assoc]; exact hu, hpr⟩
  have hvs : ∀ (j : Nat) u, ((List.range (es.length * sz)).map fun j => (w.cell? ⟨b, oo + j, none⟩).getD Go.undef)[j]? = some u → j < es.length * sz ∧ u = (w.cell? ⟨b, oo + j, none⟩).getD Go.undef := fun j u hu => by
    rw [List.getElem?_map, Option.map_eq_some_iff] at hu
    obtain ⟨q, hq, rfl⟩ := hu
    obtain ⟨h1, h2⟩ := List.getElem?_eq_some_iff.1 hq
    simp at h1 h2
    subst h2
    exact ⟨h1, rfl⟩
  refine ⟨_, cap, (List.range (es.length * sz)).map fun j => (w.cell? ⟨b, oo + j, none⟩).getD Go.undef, rfl, by simp, ⟨by simp [hfl], fun j u p hu hp => ?_⟩, ⟨_, rfl, fun j u hu => ?_⟩, hl⟩
  · obtain ⟨_, rfl⟩ := hvs j u hu
    obtain ⟨u, hu, hpr⟩ := hg j p hp
    simpa [hu] using hpr
  · obtain ⟨hj, rfl⟩ := hvs j u hu
    obtain ⟨u, hu, _⟩ := hg j _ (List.getElem?_eq_getElem (by omega))
    rw [Addr.add_mid]
    simp [hu]

theorem rows_nil {sz : Nat} {es : List (List PV)} (h : PR fp w v (.sl sz es)) (hn : es = []) : ∃ A cap, v = .slice A 0 cap := by
  obtain ⟨A, cap, rfl, _⟩ := h.slInv
  subst hn
  exact ⟨A, cap, rfl⟩

theorem Rel.frz (h : Rel X G s a w) {g p m : Nat} (hs : ∀ x, G.site x ≠ some g) (ho : ∀ k j e, G.own k j ≠ some (g, e)) (hw : X.w0.heap.size ≤ g ∨ X.L g) : Rel X G s a (w.freeze ⟨g, p, none⟩ m) := by
  have hoth : ∀ b, b ≠ g → (w.freeze ⟨g, p, none⟩ m).heap[b]? = w.heap[b]? := fun b hb => by
    unfold World.freeze
    split
    · rfl
    · simp [Array.getElem?_modify, Ne.symm hb]
  have hcell : ∀ ad : Addr, (w.freeze ⟨g, p, none⟩ m).cell? ad = w.cell? ad := fun ad => by
    by_cases hb : ad.block = g
    · unfold World.freeze
      split
      · rfl
      · simp only [World.cell?, Array.getElem?_modify, hb, if_true]
        cases w.heap[g]? with
        | none => rfl
        | some ob => cases ob <;> rfl
    · exact World.cell?_of_block (hoth _ hb)
  have hsize : (w.freeze ⟨g, p, none⟩ m).heap.size = w.heap.size := by
    unfold World.freeze
    split <;> simp
  have hm : ∀ b o v, Abs.fp X G b o → w.cell? ⟨b, o, none⟩ = some v → Abs.fp X G b o ∧ (w.freeze ⟨g, p, none⟩ m).cell? ⟨b, o, none⟩ = some v := fun b o v hf hc => ⟨hf, (hcell _).trans hc⟩
  refine ⟨fun t => (h.tmp t).mono hm (fun _ _ h => h) fun j g' e he => hoth g' (fun hg => ho _ _ _ (hg ▸ he)), fun x => (h.mem x).mono hm (fun _ _ h => h) (fun b hb => ⟨hb, hoth b fun hg => hs x (hg ▸ hb)⟩) fun j g' e he => hoth g' (fun hg => ho _ _ _ (hg ▸ he)), h.ownI, h.ownS, h.siteI, fun x b hb => by rw [hsize]; exact h.siteF x b hb, fun k j b e hb => by rw [hsize]; exact h.ownF k j b e hb, h.okS, h.okB, ?_, h.df⟩
  refine ⟨?_, ?_, ?_, by rw [hsize]; exact h.fr.size, fun b hb hl => ?_, fun b o ho' => (hcell _).trans (h.fr.cell b o ho')⟩
  · have : (w.freeze ⟨g, p, none⟩ m).os = w.os := by unfold World.freeze; split <;> rfl
    exact this.trans h.fr.os
  · have : (w.freeze ⟨g, p, none⟩ m).tape = w.tape := by unfold World.freeze; split <;> rfl
    exact this.trans h.fr.tape
  · have : (w.freeze ⟨g, p, none⟩ m).output = w.output := by unfold World.freeze; split <;> rfl
    exact this.trans h.fr.output
  · have hne : b ≠ g := by
      rintro rfl
      rcases hw with q | q
      · omega
      · exact hl q
    exact (hoth b hne).trans (h.fr.block b hb hl)
theorem run_convert_self (w : World) (t e : TypeId) (ht : P.underlying t = some (.slice e)) (he : P.underlying e = some (.int .u8)) (g n c : Nat) (cs : Array Value) (fz : Nat × Nat) (hg : w.heap[g]? = some (.cells cs e fz)) :
    (convert t t (.slice (some ⟨g, 0, none⟩) n c)).run P w = .ok (.slice (some ⟨g, 0, none⟩) n c) (w.freeze ⟨g, cs.size, none⟩ 1) := by
  have hsh : w.shape? g = some (e, cs.size) := by simp [World.shape?, hg]
  simp [convert, run_underlying ht, run_underlying he, markStringish, hsh, Result.andThen]
theorem i_fzb {d n : Nat} (hR : Rel X G s a w) (hN : a.tmps.size = N) (hok : okI P N (.fzb d n) o = true) (he : eff s (.fzb d n) = some (c, U)) (hc : c) : Nxt P X G o a w (s.ups U) mk := by
  simp only [okI, Bool.and_eq_true, bne_iff_ne] at hok
  obtain ⟨⟨h1, hnd⟩, h2⟩ := hok
  obtain ⟨hd, hlt⟩ := okDst_spec h1
  split at h2
  · rename_i t t' m hop
    simp only [Bool.and_eq_true, beq_iff_eq] at h2
    obtain ⟨⟨rfl, rfl⟩, hu⟩ := h2
    split at hu
    · rename_i e hue
      have hel : P.underlying e = some (.int .u8) := by
        unfold uInt at hu
        split at hu
        · rename_i k' hk'; simp at hu; subst hu; exact hk'
        · cases hu
      simp only [eff] at he
      split at he
      · rename_i e' sz es hsm
        cases he
        have htn := hR.tmp m
        have hdem := htn.dem fun j g e he o ho => hR.ownfp he ho
        rw [hsm] at htn hdem
        obtain ⟨⟨xs, q1, q2, q3, q4, q5⟩, q6⟩ := htn
        rcases q1.2 with ⟨_, hn⟩ | ⟨g, cap, cur, hv, hbg, hg, hnc, hcm, hcs, htake⟩
        · omega
        · have hown : ∃ e0, G.own (.t m) 0 = some (g, e0) := by
            rcases q5 with ⟨q, _⟩ | ⟨g', c', l', q, ho⟩
            · rw [hv] at q; cases q
            · rw [hv] at q; cases q; exact ⟨_, ho⟩
          obtain ⟨e0, hown⟩ := hown
          by_cases hmlt : m < a.tmps.size
          · have r1 := hR.put (d := m) hmlt (v := a.tmps.getD m Go.undef) hdem
            have ea : a.put (some m) (a.tmps.getD m Go.undef) = a := by
              unfold Act.put
              simp only
              have : a.tmps.setIfInBounds m (a.tmps.getD m Go.undef) = a.tmps := by
                apply Array.ext
                · simp
                · intro i h1 h2
                  rw [Array.getElem_setIfInBounds]
                  split
                  · rename_i hh; subst hh; simp [Array.getD, hmlt]
                  · rfl
              rw [this]
            rw [ea] at r1
            have r2 := r1.put (d := d) (by rw [hN]; exact hlt) (v := a.tmps.getD m Go.undef) (av := .pv (.sl sz es)) (by
              exact VR2.mono (fun b o v hf hcell => ⟨⟨hf.1, hf.2.1, fun k j e hk => hf.2.2 k j e (by
                simp only [clr] at hk
                split at hk
                · cases hk
                · exact hk)⟩, hcell⟩) (fun _ _ h => h) (fun _ _ _ he => by cases he) hdem)
            have r3 := r2.frz (g := g) (p := cur.size) (m := 1) (fun x hx => hR.ownS _ _ _ _ x hown hx) (fun k j e hk => by
              simp only [clr] at hk
              split at hk
              · cases hk
              · split at hk
                · cases hk
                · rename_i hk1 hk2
                  exact hk2 (hR.ownI _ _ _ _ _ _ _ hk hown).1) (hR.ownF _ _ _ _ hown).2
            refine Nxt.value (G' := { G with own := clr (clr G.own (.t m)) (.t d) }) (v := a.tmps.getD m Go.undef) (w' := w.freeze ⟨g, cur.size, none⟩ 1) ?_ (by rw [hd]; exact r3) fun x _ => rfl
            have hev : a.eval (.tmp m) = a.tmps.getD m Go.undef := rfl
            have hcv : e' = e ∨ True := Or.inr trivial
            have hshape : w.shape? g = some (e', cur.size) := by simp [World.shape?, hg]
            have hrun : (convert t t (.slice (some ⟨g, 0, none⟩) es.length cap)).run P w = .ok (.slice (some ⟨g, 0, none⟩) es.length cap) (w.freeze ⟨g, cur.size, none⟩ 1) := by
              simp [convert, run_underlying hue, run_underlying hel, markStringish, hshape, Result.andThen]
            simp only [execOp, hop, hev, hv, Sem.run_bind, hrun, Result.andThen_ok]
            rfl
          · rw [show a.tmps.getD m Go.undef = Go.undef by simp [Array.getD, hmlt]] at hv
            cases hv
      · cases he
    · cases hu
  · cases h2
theorem rows_src {st : Option Nat} {x : Opd} {y : Operand} {szx : Nat} {rows : List (List PV)} {c' : Prop} (hR : Rel X G s a w) (hx : okX x y = true) (hrows : rowsA s st (ev s x) = some (c', szx, rows)) (hc' : c') :
    ∃ A cap news, a.eval y = .slice A rows.length cap ∧ news.length = rows.length * szx ∧ PRs (Abs.fp X G) w news rows.flatten ∧ (0 < rows.length → ∃ ad, A = some ad ∧ ∀ (j : Nat) u, news[j]? = some u → w.cell? (ad.add j) = some u) ∧ (∀ r ∈ rows, r.length = szx) ∧ ∀ u ∈ news, u.oneCell' = true := by
  have fromSl : PR (Abs.fp X G) w (a.eval y) (.sl szx rows) → ∃ A cap news, a.eval y = .slice A rows.length cap ∧ news.length = rows.length * szx ∧ PRs (Abs.fp X G) w news rows.flatten ∧ (0 < rows.length → ∃ ad, A = some ad ∧ ∀ (j : Nat) u, news[j]? = some u → w.cell? (ad.add j) = some u) ∧ (∀ r ∈ rows, r.length = szx) ∧ ∀ u ∈ news, u.oneCell' = true := fun hp => by
    by_cases hne : rows = []
    · obtain ⟨A, cap, h⟩ := rows_nil hp hne
      subst hne
      exact ⟨A, cap, [], h, by simp, PRs.nil _ _, fun h => by simp at h, by simp, by simp⟩
    · obtain ⟨A, cap, news, g1, g2, g3, g4, g5⟩ := hp.rows hne
      exact ⟨A, cap, news, g1, g2, g3, fun _ => g4, g5, g3.one⟩
  have hv : V2 (Abs.fp X G) G.site w (a.eval y) (ev s x).dem2 := hR.opd _ _ hx
  generalize ev s x = q at hrows hv
  cases q <;> simp only [rowsA, reduceCtorEq] at hrows
  case pv p =>
    cases p <;> simp only [Option.some.injEq, Prod.mk.injEq, reduceCtorEq] at hrows
    obtain ⟨_, rfl, rfl⟩ := hrows
    exact fromSl hv.pv
  case os e2 sz2 es2 =>
    simp only [Option.some.injEq, Prod.mk.injEq] at hrows
    obtain ⟨_, rfl, rfl⟩ := hrows
    exact fromSl hv.pv
  case sr yy oo n2 sz2 =>
    split at hrows
    · split at hrows
      · rename_i hs2 _ l hl
        obtain ⟨hs1, _⟩ := hs2
        simp only [Option.some.injEq, Prod.mk.injEq] at hrows
        obtain ⟨rfl, rfl, rfl⟩ := hrows
        obtain ⟨b, cap, hb, hav, _, _⟩ := hv.sr
        obtain ⟨cs, et, hblk, hz⟩ := hR.block hb (by rw [hl]; trivial)
        rw [hl] at hz
        obtain ⟨⟨cs', e1, h1⟩, _⟩ := hz
        cases e1
        have hl2 : cs.size = l.length := by simpa using h1.1
        have hfl : (((l.drop oo).take n2).map fun p => [p]).flatten = (l.drop oo).take n2 := by
          generalize (l.drop oo).take n2 = q
          induction q with
          | nil => rfl
          | cons p q ih => simp only [List.map_cons, List.flatten_cons, ih]; rfl
        have hn2 : (((l.drop oo).take n2).map fun p => [p]).length = n2 := by simp; omega
        refine ⟨some ⟨b, oo, none⟩, cap, (cs.toList.drop oo).take n2, by rw [hn2]; exact hav, by rw [hn2]; simp; omega, by rw [hfl]; exact (h1.drop oo).take n2, fun _ => ⟨_, rfl, fun j u hu => ?_⟩, fun r hr => ?_, ((h1.drop oo).take n2).one⟩
        · rw [Addr.add_mid, cell_of_heap hblk]
          simp only [List.getElem?_take, List.getElem?_drop, Array.getElem?_toList] at hu
          split at hu
          · exact hu
          · cases hu
        · obtain ⟨p, _, rfl⟩ := List.mem_map.1 hr; rfl
      · cases hrows
    · cases hrows
theorem flat_one {rows : List (List PV)} (h : ∀ r ∈ rows, r.length = 1) (n : Nat) : (rows.take n).flatten = rows.flatten.take n := by
  induction rows generalizing n with
  | nil => simp
  | cons r rows ih =>
    cases n with
    | zero => simp
    | succ n =>
      obtain ⟨p, rfl⟩ := List.length_eq_one_iff.1 (h r (by simp))
      simp only [List.take_succ_cons, List.flatten_cons, List.singleton_append]
      rw [ih (fun r hr => h r (by simp [hr]))]
theorem i_copy {d yv : Nat} {st : Option Nat} {x y : Opd} (hR : Rel X G s a w) (hN : a.tmps.size = N) (hok : okI P N (.copy d yv st x y) o = true) (he : eff s (.copy d yv st x y) = some (c, U)) (hc : c) : Nxt P X G o a w (s.ups U) mk := by
  simp only [okI, Bool.and_eq_true] at hok
  obtain ⟨h1, h2⟩ := hok
  obtain ⟨hd, hlt⟩ := okDst_spec h1
  split at h2
  · rename_i cl hop
    split at h2
    · rename_i hcal
      split at h2
      · rename_i ux uy t t' hargs hat
        simp only [Bool.and_eq_true] at h2
        obtain ⟨⟨hx, hy⟩, hu⟩ := h2
        split at hu
        · rename_i el hut
          have hA : cl.args = #[ux, uy] := by cases hh : cl.args with | mk l => simp only [hh] at hargs; rw [hargs]
          have hT : cl.argTypes = #[t, t'] := by cases hh : cl.argTypes with | mk l => simp only [hh] at hat; rw [hat]
          have hsz : (P.info? el).map (·.size) = some 1 := by simpa [szOf] using hu
          have hv : V2 (Abs.fp X G) G.site w (a.eval ux) (ev s x).dem2 := hR.opd _ _ hx
          simp only [eff] at he
          split at he
          · rename_i v' oo n sz hev
            rw [hev] at hv
            split at he
            · rename_i hvv
              subst hvv
              split at he
              · rename_i l hl
                split at he
                · rename_i c' szx rows hrows
                  cases he
                  obtain ⟨hc', rfl, rfl, hfit⟩ := hc
                  obtain ⟨A, cap, news, g1, g2, g3, g4, g5, g6⟩ := rows_src hR hy hrows hc'
                  obtain ⟨b, cap2, hb, hav, _, _⟩ := hv.sr
                  obtain ⟨cs, et, hblk, hz⟩ := hR.block hb (by rw [hl]; trivial)
                  rw [hl] at hz
                  obtain ⟨⟨cs', e1, p1⟩, hnone⟩ := hz
                  cases e1
                  have hcl : cs.size = l.length := by simpa using p1.1
                  simp only [Nat.mul_one] at g2
                  have hflat : (rows.take n).flatten = rows.flatten.take n := flat_one g5 n
                  have hnl : (news.take n).length = min rows.length n := by rw [List.length_take, g2, Nat.min_comm]
                  have key : ∃ w', (Builtin.copy_ #[t, t'] o.type #[a.eval ux, a.eval uy]).run P w = .ok (goInt ((min rows.length n : Nat) : Int)) w' ∧ ∃ G', Rel X G' (s.up (.m v') (.pagg (l.take oo ++ (rows.take n).flatten ++ l.drop (oo + min rows.length n)))) a w' ∧ ∀ z, G'.site z = G.site z := by
                    by_cases h0 : min rows.length n = 0
                    · refine ⟨w, by rw [hav, g1, run_copy_none (P := P) w t t' o.type el _ _ _ _ _ _ hut hsz h0, h0]; rfl, ?_⟩
                      have e2 : l.take oo ++ (rows.take n).flatten ++ l.drop (oo + min rows.length n) = l := by
                        have : (rows.take n).flatten = [] := by
                          have : (rows.take n) = [] := List.eq_nil_of_length_eq_zero (by rw [List.length_take]; omega)
                          rw [this]; rfl
                        rw [this, h0, List.append_nil, Nat.add_zero, List.take_append_drop]
                      rw [e2]
                      have e3 : s.up (.m v') (.pagg l) = s := by
                        funext k
                        unfold S.up
                        split
                        · rename_i hk; rw [hk, hl]
                        · rfl
                      rw [e3]
                      exact ⟨G, hR, fun _ => rfl⟩
                    · obtain ⟨ad, rfl, hcells⟩ := g4 (by omega)
                      have hrun := run_copy_row (P := P) w t t' o.type el b oo n cap2 ad rows.length cap cs et (news.take n) hut hsz hblk hnl (fun j v hj => by
                        rw [List.getElem?_take] at hj
                        split at hj
                        · exact hcells j v hj
                        · cases hj) (by rw [hnl, hcl]; omega) (fun u hu => g6 u (List.mem_of_mem_take hu))
                      refine ⟨_, by rw [hav, g1, hrun, hnl], ?_⟩
                      refine ⟨_, hR.storeSite hb hblk (fun _ => none) (fun _ _ h => by cases h) (r := .pagg (l.take oo ++ (rows.take n).flatten ++ l.drop (oo + min rows.length n))) ⟨⟨_, rfl, ?_⟩, fun _ => rfl⟩ trivial, fun _ => rfl⟩
                      rw [hflat]
                      exact ((p1.take oo).append (g3.take n)).append (p1.drop _)
                  obtain ⟨w', hrun, G', hR', hs⟩ := key
                  refine Nxt.value (G' := { G' with own := clr G'.own (.t d) }) (v := goInt ((min rows.length n : Nat) : Int)) (w' := w') ?_ (by rw [hd]; exact hR'.put (by rw [hN]; exact hlt) (V2.mkpv (.int _ _))) fun z _ => hs z
                  simp only [execOp, hop, resolve, hcal, hA, hT, Sem.run_bind, Sem.run_pure, Result.andThen_ok, invoke, builtin, List.map_toArray, List.map_cons, List.map_nil, hrun]
                · cases he
              · cases he
            · cases he
          · cases he
        · cases hu
      · cases h2
    · cases h2
  · cases h2

theorem i_app {d e sz n : Nat} {st : Option Nat} {x : Opd} (hR : Rel X G s a w) (hN : a.tmps.size = N) (hok : okI P N (.app d e sz n st x) o = true) (he : eff s (.app d e sz n st x) = some (c, U)) (hc : c) : Nxt P X G o a w (s.ups U) mk := by
  simp only [okI, Bool.and_eq_true, bne_iff_ne] at hok
  obtain ⟨⟨h1, hnd⟩, h2⟩ := hok
  obtain ⟨hd, hlt⟩ := okDst_spec h1
  split at h2
  · rename_i cl hop
    split at h2
    · rename_i hcal
      split at h2
      · rename_i m y t t' hargs hat
        simp only [Bool.and_eq_true, beq_iff_eq, decide_eq_true_eq] at h2
        obtain ⟨⟨⟨⟨⟨⟨⟨rfl, hx⟩, rfl⟩, hu⟩, hsz⟩, hpos⟩, hby⟩, hzz⟩ := h2
        have hu' : P.underlying t = some (.slice e) := by
          unfold uSlice at hu
          split at hu
          · rename_i e' he'; simp at hu; subst hu; exact he'
          · cases hu
        obtain ⟨ie, hie, hsn⟩ := Option.map_eq_some_iff.1 (by simpa [szOf] using hsz)
        split at hby
        · rename_i byy hbyy
          rw [hie] at hbyy
          simp only [Option.map_some, Option.some.injEq] at hbyy
          simp only [decide_eq_true_eq] at hby
          split at hzz
          · rename_i zv hzv
            simp only [beq_iff_eq] at hzz
            unfold zeroOf at hzv
            rw [hie] at hzv
            simp only [Option.bind_some] at hzv
            have hA : cl.args = #[.tmp m, y] := by cases hh : cl.args with | mk l => simp only [hh] at hargs; rw [hargs]
            have hT : cl.argTypes = #[t, t] := by cases hh : cl.argTypes with | mk l => simp only [hh] at hat; rw [hat]
            have hev : a.eval (.tmp m) = a.tmps.getD m Go.undef := rfl
            simp only [eff] at he
            split at he
            · rename_i e' sz' es hsm
              split at he
              · rename_i c' szx rows hrows
                cases he
                obtain ⟨⟨rfl, rfl, rfl⟩, hc', hlen⟩ := hc
                have htn := hR.tmp m
                rw [hsm] at htn
                obtain ⟨⟨xs, q1, q2, q3, q4, q5⟩, q6⟩ := htn
                -- what is appended
                have src : ∃ A cap news, a.eval y = .slice A rows.length cap ∧ news.length = rows.length * szx ∧ PRs (Abs.fp X G) w news rows.flatten ∧ (0 < rows.length → ∃ ad, A = some ad ∧ ∀ (j : Nat) u, news[j]? = some u → w.cell? (ad.add j) = some u) ∧ (∀ r ∈ rows, r.length = szx) ∧ ∀ u ∈ news, u.oneCell' = true := by
                  have fromSl : PR (Abs.fp X G) w (a.eval y) (.sl szx rows) → ∃ A cap news, a.eval y = .slice A rows.length cap ∧ news.length = rows.length * szx ∧ PRs (Abs.fp X G) w news rows.flatten ∧ (0 < rows.length → ∃ ad, A = some ad ∧ ∀ (j : Nat) u, news[j]? = some u → w.cell? (ad.add j) = some u) ∧ (∀ r ∈ rows, r.length = szx) ∧ ∀ u ∈ news, u.oneCell' = true := fun hp => by
                    by_cases hne : rows = []
                    · obtain ⟨A, cap, h⟩ := rows_nil hp hne
                      subst hne
                      exact ⟨A, cap, [], h, by simp, PRs.nil _ _, fun h => by simp at h, by simp, by simp⟩
                    · obtain ⟨A, cap, news, g1, g2, g3, g4, g5⟩ := hp.rows hne
                      exact ⟨A, cap, news, g1, g2, g3, fun _ => g4, g5, g3.one⟩
                  have hv : V2 (Abs.fp X G) G.site w (a.eval y) (ev s x).dem2 := hR.opd _ _ hx
                  generalize ev s x = q at hrows hv
                  cases q <;> simp only [rowsA, reduceCtorEq] at hrows
                  case pv p =>
                    cases p <;> simp only [Option.some.injEq, Prod.mk.injEq, reduceCtorEq] at hrows
                    obtain ⟨_, rfl, rfl⟩ := hrows
                    exact fromSl hv.pv
                  case os e2 sz2 es2 =>
                    simp only [Option.some.injEq, Prod.mk.injEq] at hrows
                    obtain ⟨_, rfl, rfl⟩ := hrows
                    exact fromSl hv.pv
                  case sr yy oo n2 sz2 =>
                    split at hrows
                    · split at hrows
                      · rename_i hs2 _ l hl
                        obtain ⟨hs1, _⟩ := hs2
                        simp only [Option.some.injEq, Prod.mk.injEq] at hrows
                        obtain ⟨rfl, rfl, rfl⟩ := hrows
                        obtain ⟨b, cap, hb, hav, _, _⟩ := hv.sr
                        obtain ⟨cs, et, hblk, hz⟩ := hR.block hb (by rw [hl]; trivial)
                        rw [hl] at hz
                        obtain ⟨⟨cs', e1, h1⟩, _⟩ := hz
                        cases e1
                        have hl2 : cs.size = l.length := by simpa using h1.1
                        have hfl : (((l.drop oo).take n2).map fun p => [p]).flatten = (l.drop oo).take n2 := by
                          generalize (l.drop oo).take n2 = q
                          induction q with
                          | nil => rfl
                          | cons p q ih => simp only [List.map_cons, List.flatten_cons, ih]; rfl
                        have hn2 : (((l.drop oo).take n2).map fun p => [p]).length = n2 := by simp; omega
                        refine ⟨some ⟨b, oo, none⟩, cap, (cs.toList.drop oo).take n2, by rw [hn2]; exact hav, by rw [hn2]; simp; omega, by rw [hfl]; exact (h1.drop oo).take n2, fun _ => ⟨_, rfl, fun j u hu => ?_⟩, fun r hr => ?_, ((h1.drop oo).take n2).one⟩
                        · rw [Addr.add_mid, cell_of_heap hblk]
                          simp only [List.getElem?_take, List.getElem?_drop, Array.getElem?_toList] at hu
                          split at hu
                          · exact hu
                          · cases hu
                        · obtain ⟨p, _, rfl⟩ := List.mem_map.1 hr; rfl
                      · cases hrows
                    · cases hrows
                obtain ⟨A, cap, news, g1, g2, g3, g4, g5, g6⟩ := src
                obtain ⟨v', w', hrun, hown', hcase⟩ := run_app (P := P) (w := w) (ty := o.type) hu' hie hzv hsn hbyy hzz hpos q1 (A := A) (m := rows.length) (c := cap) g2 g4 g6 (by unfold maxLen; omega) (by
                  have := Nat.mul_le_mul hlen hby
                  omega)
                obtain ⟨G', hR', hs⟩ := hR.app (d := d) (by rw [hN]; exact hlt) hnd hsm q2 g3 g5 q1 hown' hcase
                rw [hsm] at hR'
                refine Nxt.value (v := v') (w' := w') ?_ (by rw [hd]; exact hR') fun x _ => hs x
                simp only [execOp, hop, resolve, hcal, hA, hT, Sem.run_bind, Sem.run_pure, Result.andThen_ok, invoke, builtin, List.map_toArray, List.map_cons, List.map_nil, hev, g1, hrun]
              · cases he
            · cases he
          · cases hzz
        · cases hby
      · cases h2
    · cases h2
  · cases h2
end
end Go.Abs
