/- The abstract machine's operations on memory answer as the model's do: slices, loads, stores, appends. No condition. -/
import Derived.Test.YtgnajpfackfcaaaAbsJ
import Derived.Laws.MakeOwn
set_option linter.unusedVariables false
set_option linter.unusedSimpArgs false
namespace Go.Abs
open Go.RowKit

section
variable {P : Program} {X : Ctx} {G G' : Gh} {s s' : S} {a : Act} {w w' : World} {o : Oper} {c : Prop} {U : List (Key × AV)} {v : Value} {N : Nat} {mk : List Nat}
variable {fp : Nat → Nat → Prop} {site : Nat → Option Nat}

theorem flatten_set {α : Type} {sz : Nat} : ∀ {rows : List (List α)} {i : Nat} {row : List α}, (∀ r ∈ rows, r.length = sz) → i < rows.length → (rows.set i row).flatten = rows.flatten.take (i * sz) ++ row ++ rows.flatten.drop (i * sz + sz) := by
  intro rows
  induction rows with
  | nil => intro i row _ h; simp at h
  | cons r rows ih =>
    intro i row hl hi
    have hr := hl r (by simp)
    cases i with
    | zero =>
      simp only [List.set_cons_zero, List.flatten_cons, Nat.zero_mul, List.take_zero, List.nil_append, Nat.zero_add]
      rw [List.drop_append_of_le_length (by omega), List.drop_of_length_le (by omega), List.nil_append]
    | succ i =>
      simp only [List.set_cons_succ, List.flatten_cons]
      rw [ih (fun r hr => hl r (by simp [hr])) (by simpa using hi)]
      have e1 : (i + 1) * sz = r.length + i * sz := by rw [Nat.add_mul]; omega
      rw [e1, List.take_length_add_append, Nat.add_assoc, List.drop_length_add_append]
      simp

theorem cellsPV_PRs {x : AV} {row : List PV} (h : cellsPV x = some row) (hv : V2 fp site w v x) : PRs fp w v.cells.toList row := by
  cases x <;> simp only [cellsPV, Option.some.injEq, reduceCtorEq] at h <;> subst h
  · rw [hv.pv.cells]
    refine ⟨rfl, fun j u q h1 h2 => ?_⟩
    cases j with
    | zero => simp at h1 h2; subst h1 h2; exact hv.pv
    | succ j => simp at h1
  · obtain ⟨⟨cs, rfl, h1⟩, h2⟩ := hv; exact h1

theorem fillR_sound {sz : Nat} (H : OpdR fp site w a.eval (fun x => (ev s x).dem2)) : ∀ (ps : List (Nat × Opd)) (ps' : List (Nat × Operand)) (rows rows' : List (List PV)) (c : Prop) (cs : Array Value),
    okRows ps ps' = true → fillR s sz rows ps = some (c, rows') → c → PRs fp w cs.toList rows.flatten → (∀ r ∈ rows, r.length = sz) →
    ∃ cs', Instr.fill (fun i => some (i * sz, sz)) cs (ps'.map fun (i, x) => (i, a.eval x)) = some cs' ∧ PRs fp w cs'.toList rows'.flatten ∧ (∀ r ∈ rows', r.length = sz) ∧ rows'.length = rows.length := by
  intro ps
  induction ps with
  | nil =>
    intro ps' rows rows' c cs h1 h2 _ h3 h4
    cases ps' with
    | nil => simp only [fillR, Option.some.injEq, Prod.mk.injEq] at h2; obtain ⟨_, rfl⟩ := h2; exact ⟨cs, rfl, h3, h4, rfl⟩
    | cons _ _ => simp [okRows] at h1
  | cons p ps ih =>
    intro ps' rows rows' c cs h1 h2 hc h3 h4
    obtain ⟨i, x⟩ := p
    cases ps' with
    | nil => simp [okRows] at h1
    | cons p' ps' =>
      obtain ⟨i', y⟩ := p'
      simp only [okRows, Bool.and_eq_true, beq_iff_eq] at h1
      obtain ⟨⟨hii, hx⟩, h1⟩ := h1
      have hii' : i = i' := hii.symm
      subst hii'
      simp only [fillR] at h2
      split at h2
      · rename_i row hrow
        split at h2
        · rename_i c2 z2 hfill
          cases h2
          obtain ⟨hn, hi, hc2⟩ := hc
          have hpr := cellsPV_PRs hrow (H _ _ hx)
          have hcl : (a.eval y).cells.size = sz := by have := hpr.1; simp at this; omega
          have hcs : cs.size = rows.length * sz := by have := h3.1; rw [flat_len h4] at this; simpa using this
          have hfit : i * sz + sz ≤ cs.size := by rw [hcs, ← Nat.succ_mul]; exact Nat.mul_le_mul_right _ hi
          have hrows : ∀ r ∈ rows.set i row, r.length = sz := fun r hr => by
            rcases List.mem_or_eq_of_mem_set hr with hr | rfl
            · exact h4 r hr
            · exact hn
          obtain ⟨cs', g1, g2, g3, g4⟩ := ih ps' (rows.set i row) rows' c2 (spl cs (i * sz) (a.eval y).cells) h1 hfill hc2 (by
            rw [flatten_set h4 hi]
            have := ((h3.take (i * sz)).append hpr).append (h3.drop (i * sz + sz))
            simpa [spl, hcl] using this) hrows
          refine ⟨cs', ?_, g2, g3, by simpa using g4⟩
          have hfold : (a.eval y).cells.zipIdx.foldl (fun cs (x : Value × Nat) => cs.setIfInBounds (i * sz + x.2) x.1) cs = spl cs (i * sz) (a.eval y).cells := by
            have := fold_spl (a.eval y).cells.toList (i * sz) 0 cs (by simp; omega)
            rw [← Array.foldl_toList, Array.toList_zipIdx]
            simpa using this
          simp only [List.map_cons, Instr.fill]
          rw [if_neg (by simp [hcl]; omega)]
          rw [hfold]
          exact g1
        · cases h2
      · cases h2

theorem made_PRs {fp : Nat → Nat → Prop} {sz n : Nat} {z : List PV} {zs : Array Value} (hzz : PRs fp w zs.toList z) (hzl : z.length = sz) (hpos : 0 < sz) : PRs fp w (madeCells zs (n * sz)).toList (List.replicate n z).flatten := by
  have hzs : zs.size = sz := by have := hzz.1; simp at this; omega
  have hrl : ∀ r ∈ List.replicate n z, r.length = sz := fun r hr => by rw [(List.mem_replicate.1 hr).2]; exact hzl
  refine ⟨by rw [flat_len hrl]; simp [madeCells], fun j u p hu hp => ?_⟩
  obtain ⟨i, r, k, g1, g2, rfl⟩ := flat_get hrl hp
  have hr : r = z := (List.mem_replicate.1 (List.mem_of_getElem? g1)).2
  subst hr
  have hk := (List.getElem?_eq_some_iff.1 g2).1
  rw [hzl] at hk
  simp only [madeCells, Array.toList_map, Array.toList_range, List.getElem?_map, Option.map_eq_some_iff] at hu
  obtain ⟨q, hq, rfl⟩ := hu
  have : q = i * sz + k := by
    obtain ⟨_, hq⟩ := List.getElem?_eq_some_iff.1 hq
    simpa using hq.symm
  subst this
  have e2 : (i * sz + k) % zs.size = k := by
    rw [hzs, Nat.mul_comm, Nat.mul_add_mod, Nat.mod_eq_of_lt hk]
  rw [e2]
  refine hzz.2 k _ p ?_ g2
  rw [getElem!_pos zs k (by omega), Array.getElem?_toList, Array.getElem?_eq_getElem]

theorem put_put (a : Act) (d : Nat) (u v : Value) : (a.put (some d) u).put (some d) v = a.put (some d) v := by simp [Act.put]
theorem up_up (s : S) (k : Key) (u v : AV) : (s.up k u).up k v = s.up k v := by
  funext j
  by_cases h : j = k
  · subst h; rw [S.up_same, S.up_same]
  · rw [S.up_other _ _ h, S.up_other _ _ h, S.up_other _ _ h]
theorem Rel.newSlice (h : Rel X G s a w) {d : Nat} (hd : d < a.tmps.size) (hfree : G.site d = none) (hmd : s (.m d) = .undef) {cs : Array Value} {e : TypeId} {c : AV} {n sz : Nat} (hn : n ≤ maxLen) (hc : V2 (Abs.fp X G) G.site w (.agg cs) c) (hagg : c.isAgg) :
    ∃ G', Rel X G' ((s.up (.m d) c).up (.t d) (.sr d 0 n sz)) (a.put (some d) (.slice (some ⟨w.heap.size, 0, none⟩) n n)) (w.alloc (.cells cs e)) ∧ ∀ x, x ≠ d → G'.site x = G.site x := by
  obtain ⟨G', hR, hs⟩ := h.newSite (e := e) hd hfree hmd hc hagg
  have hp := hR.tmp d
  rw [getD_put_same hd, S.up_same] at hp
  obtain ⟨⟨⟨b, hb, hv⟩, _⟩, _⟩ := hp
  cases hv
  have q := hR.put (d := d) (by rw [put_size]; exact hd) (v := .slice (some ⟨w.heap.size, 0, none⟩) n n) (av := .sr d 0 n sz) ⟨⟨⟨_, n, hb, rfl, Nat.le_refl _, hn⟩, rfl⟩, fun _ _ => rfl⟩
  rw [put_put, up_up] at q
  exact ⟨_, q, hs⟩
theorem i_mks {d : Nat} {z : List PV} {x : Opd} (hR : Rel X G s a w) (hN : a.tmps.size = N) (hfree : G.site d = none) (hmd : s (.m d) = .undef) (hok : okI P N (.mks d z x) o = true) (he : eff s (.mks d z x) = some (c, U)) (hc : c) : Nxt P X G o a w (s.ups U) [d] := by
  simp only [okI, Bool.and_eq_true] at hok
  obtain ⟨h1, h2⟩ := hok
  obtain ⟨hd, hlt⟩ := okDst_spec h1
  simp only [eff] at he
  split at he
  · rename_i k n hev
    cases he
    split at h2
    · rename_i t l cc hop
      simp only [Bool.and_eq_true] at h2
      obtain ⟨⟨hx1, hx2⟩, h2⟩ := h2
      split at h2
      · rename_i e hu
        simp only [Bool.and_eq_true, decide_eq_true_eq] at h2
        obtain ⟨⟨⟨hsz, hpos⟩, hz⟩, hby⟩ := h2
        obtain ⟨ie, hie, hsn⟩ := Option.map_eq_some_iff.1 (by simpa [szOf] using hsz)
        unfold okZero at hz
        split at hz
        · rename_i zv hzv
          unfold zeroOf at hzv
          obtain ⟨it, hit, hzi⟩ := Option.bind_eq_some_iff.1 hzv
          rw [hie] at hit
          cases hit
          simp only [hie, Option.map_some, decide_eq_true_eq] at hby
          obtain ⟨hv, _⟩ := okCells_V2 (w := w) (fp := Abs.fp X G) (site := G.site) hz
          have hzz : PRs (Abs.fp X G) w zv.cells.toList z := by obtain ⟨⟨cs, e1, h1⟩, _⟩ := hv; cases e1; exact h1
          have v1 : V2 (Abs.fp X G) G.site w (a.eval l) (ev s x).dem2 := hR.opd _ _ hx1
          have v2 : V2 (Abs.fp X G) G.site w (a.eval cc) (ev s x).dem2 := hR.opd _ _ hx2
          rw [hev] at v1 v2
          have key : ∀ u : Value, V2 (Abs.fp X G) G.site w u (.pv (.int k n)) → u = .int k n := fun u hu => by obtain ⟨⟨h, _⟩, _⟩ := hu; cases h; rfl
          have u1 : a.eval l = .int k n := key _ v1
          have u2 : a.eval cc = .int k n := key _ v2
          have hbb : (ie.bytes : Int) * n ≤ 281474976710656 := by
            have : (ie.bytes : Int) * n ≤ 1000 * 100000000000 := Int.mul_le_mul (by omega) hc.2 hc.1 (by decide)
            omega
          have hrun := run_make w t e ie zv hu hie hzi k k n n hc.1 (Int.le_refl _) hbb (by omega)
          have hcs := made_PRs (n := n.toNat) hzz rfl hpos
          rw [← hsn] at hcs
          obtain ⟨G', hR', hs⟩ := hR.newSlice (d := d) (e := e) (n := n.toNat) (sz := z.length) (by rw [hN]; exact hlt) hfree hmd (by unfold maxLen; omega) (cs := madeCells zv.cells (n.toNat * ie.size)) (c := .pagg (List.replicate n.toNat z).flatten) ⟨⟨_, rfl, hcs⟩, fun _ => rfl⟩ trivial
          refine Nxt.value (v := .slice (some ⟨w.heap.size, 0, none⟩) n.toNat n.toNat) (w' := w.alloc (.cells (madeCells zv.cells (n.toNat * ie.size)) e)) ?_ (by rw [hd]; exact hR') fun x hx => hs x (by simpa using hx)
          simp only [execOp, hop, u1, u2, Sem.run_bind, hrun, Result.andThen_ok]
          rfl
        · cases hz
      · cases h2
    · cases h2
  · cases he

theorem i_bslice {d e sz n : Nat} {z : List PV} {ps : List (Nat × Opd)} (hR : Rel X G s a w) (hN : a.tmps.size = N) (hok : okI P N (.bslice d e sz n z ps) o = true) (he : eff s (.bslice d e sz n z ps) = some (c, U)) (hc : c) : Nxt P X G o a w (s.ups U) mk := by
  simp only [okI, Bool.and_eq_true] at hok
  obtain ⟨h1, h2⟩ := hok
  obtain ⟨hd, hlt⟩ := okDst_spec h1
  simp only [eff] at he
  split at he
  · rename_i c' rows hfill
    cases he
    split at h2
    · rename_i t n' ps' hop
      simp only [Bool.and_eq_true, beq_iff_eq, decide_eq_true_eq] at h2
      obtain ⟨⟨⟨⟨⟨⟨⟨rfl, hu⟩, hsz⟩, hpos⟩, hsmall⟩, hz⟩, hzl⟩, hps⟩ := h2
      have hu' : P.underlying t = some (.slice e) := by
        unfold uSlice at hu
        split at hu
        · rename_i e' he'; simp at hu; subst hu; exact he'
        · cases hu
      obtain ⟨ie, hie, hsn⟩ := Option.map_eq_some_iff.1 (by simpa [szOf] using hsz)
      unfold okZero at hz
      split at hz
      · rename_i zv hzv
        unfold zeroOf at hzv
        obtain ⟨it, hit, hzi⟩ := Option.bind_eq_some_iff.1 hzv
        rw [hie] at hit
        cases hit
        obtain ⟨hv, _⟩ := okCells_V2 (w := w) (fp := Abs.fp X G) (site := G.site) hz
        have hzz : PRs (Abs.fp X G) w zv.cells.toList z := by obtain ⟨⟨cs, e1, h1⟩, _⟩ := hv; cases e1; exact h1
        have hzs : zv.cells.size = sz := by have := hzz.1; simp at this; omega
        have hrl : ∀ r ∈ List.replicate n z, r.length = sz := fun r hr => by rw [(List.mem_replicate.1 hr).2]; exact hzl
        have h0 : PRs (Abs.fp X G) w ((Array.range (n * sz)).map (zv.cells[· % zv.cells.size]!)).toList (List.replicate n z).flatten := by
          refine ⟨by rw [flat_len hrl]; simp, fun j u p hu hp => ?_⟩
          obtain ⟨i, r, k, g1, g2, rfl⟩ := flat_get hrl hp
          have hr : r = z := (List.mem_replicate.1 (List.mem_of_getElem? g1)).2
          subst hr
          have hk := (List.getElem?_eq_some_iff.1 g2).1
          rw [hzl] at hk
          simp only [Array.toList_map, Array.toList_range, List.getElem?_map, Option.map_eq_some_iff] at hu
          obtain ⟨q, hq, rfl⟩ := hu
          have : q = i * sz + k := by
            obtain ⟨_, hq⟩ := List.getElem?_eq_some_iff.1 hq
            simpa using hq.symm
          subst this
          have e2 : (i * sz + k) % zv.cells.size = k := by
            rw [hzs, Nat.mul_comm, Nat.mul_add_mod, Nat.mod_eq_of_lt hk]
          rw [e2]
          refine hzz.2 k _ p ?_ g2
          rw [getElem!_pos zv.cells k (by omega), Array.getElem?_toList, Array.getElem?_eq_getElem]
        obtain ⟨cs', g1, g2, g3, g4⟩ := fillR_sound hR.opd ps ps'.toList _ rows _ _ hps hfill hc h0 hrl
        rw [List.length_replicate] at g4
        have hrun : (Instr.buildSlice t n (ps'.map fun (i, x) => (i, a.eval x))).run P w = .ok (.slice (some ⟨w.heap.size, 0, none⟩) n n) (w.alloc (.cells cs' e)) := by
          have g1' : Instr.fill (fun i => some (i * ie.size, ie.size)) ((Array.range (n * ie.size)).map (zv.cells[· % zv.cells.size]!)) (ps'.map fun (i, x) => (i, a.eval x)).toList = some cs' := by
            rw [hsn]; simpa using g1
          have hs' : ¬ n * ie.size > 2 ^ 24 := by rw [hsn]; omega
          by_cases h0 : n * ie.size = 0
          · have hn0 : n = 0 := by
              rcases Nat.mul_eq_zero.1 h0 with h | h
              · exact h
              · omega
            subst hn0
            rw [Nat.zero_mul, show Array.range 0 = #[] from rfl, Array.map_empty] at g1'
            have hemp : Array.range 0 = #[] := rfl
            simp at g1'
            simp [Instr.buildSlice, run_underlying hu', sizeOf, typeInfo, zeroValue, hie, hzi, hemp, g1', newRow]
          · exact run_buildSlice w t e n _ cs' ie zv hu' hie hzi hs' h0 g1'
        have hml : rows.length ≤ maxLen := by
          rw [g4]
          have := Nat.le_mul_of_pos_right n hpos
          unfold maxLen
          omega
        obtain ⟨G', hR', hs⟩ := hR.newOwn (d := d) (e := e) (cs := cs') (by rw [hN]; exact hlt) g2 g3 hpos hml
        rw [g4] at hR'
        exact Nxt.value (by simp only [execOp, hop, Sem.run_bind, hrun, Result.andThen_ok]; rfl) (by rw [hd]; exact hR') fun x _ => hs x
      · cases hz
    · cases h2
  · cases he

theorem loadT_none {t : TypeId} (h : okLoadT P t none = true) : isAggT P t = some false := by simp [okLoadT] at h; exact h.1
theorem run_isAgg {t : TypeId} {b : Bool} (h : isAggT P t = some b) (w : World) : (isAgg t).run P w = .ok b w := by
  unfold isAggT at h
  cases hd : P.underlying t with
  | none => simp [hd] at h
  | some d => rw [hd] at h; cases d <;> simp at h <;> subst h <;> simp [isAgg, run_underlying hd]

/-- A site's block. -/
theorem Rel.block (h : Rel X G s a w) {y b : Nat} (hy : G.site y = some b) (hagg : (s (.m y)).isAgg) : ∃ cs e, w.heap[b]? = some (.cells cs e (0, 0)) ∧ VR1 (Abs.fp X G) G.site w (.agg cs) (s (.m y)) (G.own (.m y)) := by
  have hm := h.mem y
  generalize s (.m y) = cc at hm hagg
  cases cc <;> first | exact hagg.elim | skip
  all_goals
    obtain ⟨b', cs, e, h1, h2, h3, _⟩ := hm
    rw [hy] at h1
    cases h1
    exact ⟨cs, e, h2, h3⟩

theorem getc_own {cs : Array Value} {z r : AV} {j : Nat} {ow : Nat → Option (Nat × Nat)} (hz : VR1 fp site w (.agg cs) z ow) (hagg : z.isAgg) (hf : ∀ j g e, ow j = some (g, e) → ∀ o, o < e → fp g o) (hr : getc z j = some r) : ∃ u, cs[j]? = some u ∧ VR0 fp site w u r none := by
  have := hz.dem hf
  have hd : getc z.dem1 j = some r := by
    cases z <;> simp only [AV.isAgg] at hagg
    · exact hr
    · rename_i l
      simp only [getc, AV.dem1, List.getElem?_map, Option.map_map] at hr ⊢
      rw [← hr]
      cases l[j]? with
      | none => rfl
      | some q => cases q <;> rfl
  have hagg' : z.dem1.isAgg := by cases z <;> simp only [AV.isAgg] at hagg <;> trivial
  obtain ⟨cs', u, e1, hu, hv⟩ := V2.getc (VR1_V2 this) hd hagg'
  cases e1
  exact ⟨u, hu, hv⟩

theorem load_agg {cs : Array Value} {z r : AV} {oo k : Nat} {wh : Bool} {ow : Nat → Option (Nat × Nat)} (hz : VR1 fp site w (.agg cs) z ow) (hagg : z.isAgg) (hf : ∀ j g e, ow j = some (g, e) → ∀ o, o < e → fp g o) (hr : loadA z oo (some (k, wh)) = some (c, r)) (hc : c) :
    oo + k ≤ cs.size ∧ V2 fp site w (.agg ((cs.toList.drop oo).take k).toArray) r := by
  have hd := hz.dem hf
  cases z <;> simp only [AV.isAgg] at hagg
  case pagg l =>
    obtain ⟨⟨cs', e, h1⟩, _⟩ := hz
    cases e
    have hl : cs.size = l.length := by simpa using h1.1
    cases wh <;> simp only [loadA, Option.some.injEq, Prod.mk.injEq] at hr <;> obtain ⟨rfl, rfl⟩ := hr
    · exact ⟨by omega, ⟨_, rfl, (h1.drop oo).take k⟩, fun _ => rfl⟩
    · obtain ⟨rfl, rfl⟩ := hc
      refine ⟨by omega, ⟨_, rfl, ?_⟩, fun _ => rfl⟩
      rw [List.drop_zero, ← h1.1, List.take_length]
      exact h1
  case agg l =>
    obtain ⟨⟨cs', e, h1, h2⟩, _⟩ := hd
    cases e
    rw [List.length_map] at h1
    cases wh <;> simp only [loadA, Option.some.injEq, Prod.mk.injEq] at hr <;> obtain ⟨rfl, rfl⟩ := hr
    · refine ⟨by omega, ⟨_, rfl, by simp [h1], fun j cc u hj hu => ?_⟩, fun _ _ => rfl⟩
      simp only [List.getElem?_toArray, List.getElem?_map, List.getElem?_take, List.getElem?_drop, Array.getElem?_toList] at hj hu
      split at hu
      · rename_i hjk
        rw [if_pos hjk] at hj
        exact h2 (oo + j) cc u (by rw [List.getElem?_map]; exact hj) hu
      · cases hu
    · obtain ⟨rfl, rfl⟩ := hc
      refine ⟨by omega, ⟨_, rfl, by simp [h1], fun j cc u hj hu => ?_⟩, fun _ _ => rfl⟩
      rw [List.drop_zero, ← h1, ← Array.length_toList, List.take_length] at hu
      exact h2 j cc u hj (by simpa using hu)

theorem loadA_isAgg {z : AV} {oo : Nat} {n : Option (Nat × Bool)} {x : Prop × AV} (h : loadA z oo n = some x) : z.isAgg ∨ ∃ l, z = .rp l := by
  cases n with
  | none => cases z <;> simp [loadA, getc, AV.isAgg] at h ⊢
  | some kw => obtain ⟨k, wh⟩ := kw; cases wh <;> cases z <;> simp [loadA, AV.isAgg] at h ⊢

theorem i_load {d : Nat} {n : Option (Nat × Bool)} {st : Option Nat} {x : Opd} (hR : Rel X G s a w) (hN : a.tmps.size = N) (hok : okI P N (.load d n st x) o = true) (he : eff s (.load d n st x) = some (c, U)) (hc : c) : Nxt P X G o a w (s.ups U) mk := by
  simp only [okI, Bool.and_eq_true] at hok
  obtain ⟨h1, h2⟩ := hok
  obtain ⟨hd, hlt⟩ := okDst_spec h1
  split at h2
  · rename_i t y hop
    simp only [Bool.and_eq_true] at h2
    obtain ⟨ht, hx⟩ := h2
    have hv : V2 (Abs.fp X G) G.site w (a.eval y) (ev s x).dem2 := hR.opd _ _ hx
    have fin : ∀ r v, (Instr.loadAt t (a.eval y)).run P w = .ok v w → V2 (Abs.fp X G) G.site w v r → Nxt P X G o a w (s.ups [(.t d, r)]) mk := fun r v hrun hr =>
      Nxt.value (G' := { G with own := clr G.own (.t d) }) (v := v) (by simp only [execOp, hop, Sem.run_bind, hrun, Result.andThen_ok]; rfl) (by rw [hd]; exact hR.put (by rw [hN]; exact hlt) hr) fun _ _ => rfl
    simp only [eff] at he
    split at he
    · rename_i yy oo hev
      rw [hev] at hv
      obtain ⟨b, hb, hav⟩ := hv.ptr
      split at he
      · split at he
        · rename_i c' r hl
          cases he
          have hm := hR.mem yy
          have hagg : (s (.m yy)).isAgg := by
            rcases loadA_isAgg hl with q | ⟨l, q⟩
            · exact q
            · rw [q] at hm
              obtain ⟨_, _, _, _, _, _, q⟩ := hm
              exact q.elim
          obtain ⟨cs, e, hblk, hz⟩ := hR.block hb hagg
          have hf := fun j g e (he : G.own (.m yy) j = some (g, e)) o (ho : o < e) => hR.ownfp he ho
          cases n with
          | none =>
            simp only [loadA, Option.map_eq_some_iff, Prod.mk.injEq] at hl
            obtain ⟨r', hl, _, rfl⟩ := hl
            obtain ⟨u, hu, hr⟩ := getc_own hz hagg hf hl
            refine fin _ u ?_ (V2.of0 hr)
            have hcell : w.cell? ⟨b, oo, none⟩ = some u := by rw [cell_of_heap hblk]; exact hu
            simp [Instr.loadAt, hav, Instr.sureAddr, loadVar, run_isAgg (loadT_none ht), hcell]
          | some kw =>
            obtain ⟨k, wh⟩ := kw
            obtain ⟨q1, q2⟩ := load_agg hz hagg hf hl hc
            refine fin _ _ ?_ q2
            simp only [okLoadT, Bool.and_eq_true, decide_eq_true_eq, szOf] at ht
            obtain ⟨i, hi, hk⟩ := Option.map_eq_some_iff.1 ht.2
            have hlist := run_loadCells_list (P := P) w ⟨b, oo, none⟩ ((cs.toList.drop oo).take k) fun j u hu => by
              rw [Addr.add_mid, cell_of_heap hblk]
              simp only [List.getElem?_take, List.getElem?_drop, Array.getElem?_toList] at hu
              split at hu
              · exact hu
              · cases hu
            have hlen : ((cs.toList.drop oo).take k).length = k := by simp; omega
            rw [hlen] at hlist
            simp [Instr.loadAt, hav, Instr.sureAddr, loadVar, run_isAgg ht.1, sizeOf, typeInfo, hi, hk, hlist]
        · cases he
      · cases he
    · rename_i l hev
      rw [hev] at hv
      obtain ⟨b, oo, hav, hcell⟩ := hv.rp
      split at he
      · rename_i c' r hl
        cases he
        cases n with
        | none =>
          simp only [loadA, getc, Option.map_eq_some_iff, Prod.mk.injEq] at hl
          obtain ⟨r', ⟨p, hp, rfl⟩, _, rfl⟩ := hl
          obtain ⟨_, u, hu, hpr⟩ := hcell 0 p hp
          refine fin _ u ?_ (V2.mkpv hpr)
          simp only [Nat.add_zero] at hu
          simp [Instr.loadAt, hav, Instr.sureAddr, loadVar, run_isAgg (loadT_none ht), hu]
        | some kw =>
          obtain ⟨k, wh⟩ := kw
          have hl2 : k ≤ l.length ∧ r = .pagg (l.take k) := by
            cases wh <;> simp only [loadA, Option.some.injEq, Prod.mk.injEq] at hl <;> obtain ⟨rfl, rfl⟩ := hl
            · exact ⟨by omega, by simp⟩
            · obtain ⟨_, rfl⟩ := hc; exact ⟨Nat.le_refl _, by rw [List.take_length]⟩
          obtain ⟨hk, rfl⟩ := hl2
          classical
          have hg : ∀ j p, (l.take k)[j]? = some p → ∃ u, w.cell? ⟨b, oo + j, none⟩ = some u ∧ PR (Abs.fp X G) w u p := fun j p hp => by
            rw [List.getElem?_take] at hp
            split at hp
            · obtain ⟨_, u, hu, hpr⟩ := hcell j p hp; exact ⟨u, hu, hpr⟩
            · cases hp
          have hkl : (l.take k).length = k := by simp; omega
          have hvs : ∀ j u, ((List.range k).map fun j => (w.cell? ⟨b, oo + j, none⟩).getD Go.undef)[j]? = some u → j < k ∧ u = (w.cell? ⟨b, oo + j, none⟩).getD Go.undef := fun j u hu => by
            rw [List.getElem?_map, Option.map_eq_some_iff] at hu
            obtain ⟨q, hq, rfl⟩ := hu
            obtain ⟨h1, h2⟩ := List.getElem?_eq_some_iff.1 hq
            simp at h1 h2
            subst h2
            exact ⟨h1, rfl⟩
          simp only [okLoadT, Bool.and_eq_true, decide_eq_true_eq, szOf] at ht
          obtain ⟨i, hi, hki⟩ := Option.map_eq_some_iff.1 ht.2
          have hlist := run_loadCells_list (P := P) w ⟨b, oo, none⟩ ((List.range k).map fun j => (w.cell? ⟨b, oo + j, none⟩).getD Go.undef) fun j u hu => by
            rw [Addr.add_mid]
            obtain ⟨hj, rfl⟩ := hvs j u hu
            obtain ⟨u, hu, _⟩ := hg j _ (List.getElem?_eq_getElem (by omega))
            simp [hu]
          have hlen : ((List.range k).map fun j => (w.cell? ⟨b, oo + j, none⟩).getD Go.undef).length = k := by simp
          rw [hlen] at hlist
          refine fin _ (.agg ((List.range k).map fun j => (w.cell? ⟨b, oo + j, none⟩).getD Go.undef).toArray) (by simp only [Instr.loadAt, hav, Instr.sureAddr, loadVar, Sem.run_bind, Sem.run_pure, Result.andThen_ok, run_isAgg ht.1, if_true, sizeOf, typeInfo]; simp [hi, hki, hlist]) ⟨⟨_, rfl, by rw [hkl]; simp, fun j u p hu hp => ?_⟩, fun _ => rfl⟩
          obtain ⟨hj, rfl⟩ := hvs j u (by simpa using hu)
          obtain ⟨u, hu', hpr⟩ := hg j p hp
          simpa [hu'] using hpr
      · cases he
    · cases he
  · cases h2
end
end Go.Abs
