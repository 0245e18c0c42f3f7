/- The abstract machine's operations that only compute: addresses and slices. No condition. -/
import Derived.Test.YtgnajpfackfcaaaAbsC
set_option linter.unusedVariables false
set_option linter.unusedSimpArgs false
namespace Go.Abs

section
variable {fp : Nat → Nat → Prop} {site : Nat → Option Nat} {w : World} {v : Value}
variable {P : Program} {ρ : Operand → Value} {g : Opd → AV} {o : Oper} {xs : List Opd} {c : Prop} {r : AV}

theorem okArr_spec {t : TypeId} {arr : Option Nat} {sz : Nat} (h : okArr P t arr sz = true) :
    ∃ e, (match arr with | none => P.underlying t = some (.slice e) | some n => P.underlying t = some (.array n e)) ∧ (∀ w, (sizeOf e).run P w = .ok sz w) ∧ 0 < sz := by
  unfold okArr at h
  split at h
  · rename_i arr' e he
    simp only [Bool.and_eq_true, decide_eq_true_eq, szOf] at h
    obtain ⟨⟨rfl, hs⟩, hp⟩ := h
    obtain ⟨i, hi, hn⟩ := Option.map_eq_some_iff.1 hs
    unfold arrOf at he
    split at he <;> simp only [Option.some.injEq, Prod.mk.injEq, reduceCtorEq, false_and] at he
    all_goals
      obtain ⟨rfl, rfl⟩ := he
      rename_i hu
      exact ⟨_, hu, fun w => by simp [sizeOf, typeInfo, hi, hn], hp⟩
  · cases h

/-- What is read of a slice by its contents. -/
theorem PR.slInv {sz : Nat} {es : List (List PV)} (h : PR fp w v (.sl sz es)) : ∃ A cap, v = .slice A es.length cap ∧ es.length ≤ cap ∧ cap ≤ maxLen ∧ (A = none → cap = 0) ∧
    (es ≠ [] → ∃ b o, A = some ⟨b, o, none⟩ ∧ (∀ r ∈ es, r.length = sz) ∧
      ∀ i r j p, es[i]? = some r → r[j]? = some p → fp b (o + i * sz + j) ∧ ∃ u, w.cell? ⟨b, o + i * sz + j, none⟩ = some u ∧ PR fp w u p) := by
  cases h with
  | sl0 A cap _ h1 h2 => exact ⟨A, cap, rfl, Nat.zero_le _, h1, h2, fun h => absurd rfl h⟩
  | sl b o cap _ _ f h1 h2 h3 h4 h5 =>
    refine ⟨_, cap, rfl, h1, h2, (fun h => by cases h), fun _ => ⟨b, o, rfl, h3, fun i r j p hi hj => ?_⟩⟩
    have hj' : j < sz := by
      rw [← h3 r (List.mem_of_getElem? hi)]
      exact (List.getElem?_eq_some_iff.1 hj).1
    obtain ⟨a1, a2⟩ := h4 i r j hi hj'
    exact ⟨a1, _, a2, h5 i r j p hi hj⟩

theorem PR.mksl {b o cap sz : Nat} {es : List (List PV)} (h1 : es.length ≤ cap) (h2 : cap ≤ maxLen) (h3 : ∀ r ∈ es, r.length = sz)
    (h4 : ∀ i r j p, es[i]? = some r → r[j]? = some p → fp b (o + i * sz + j) ∧ ∃ u, w.cell? ⟨b, o + i * sz + j, none⟩ = some u ∧ PR fp w u p) : PR fp w (.slice (some ⟨b, o, none⟩) es.length cap) (.sl sz es) := by
  classical
  refine .sl b o cap sz es (fun i j => (w.cell? ⟨b, o + i * sz + j, none⟩).getD Go.undef) h1 h2 h3 (fun i r j hi hj => ?_) (fun i r j p hi hj => ?_)
  · have hl := h3 r (List.mem_of_getElem? hi)
    obtain ⟨a1, u, a2, _⟩ := h4 i r j _ hi (List.getElem?_eq_getElem (by omega))
    exact ⟨a1, by simp [a2]⟩
  · obtain ⟨_, u, a2, a3⟩ := h4 i r j p hi hj
    simpa [a2] using a3

theorem asIntOf_run (k : IntKind) (n : Int) : (asIntOf (.int k n)).run P w = .ok (k, n) w := rfl

theorem run_sliceBound {k : IntKind} {i : Int} {y : Nat} {code : BoundsCode} (h : 0 ≤ i ∧ i ≤ y) : (Instr.sliceBound (.int k i) y code).run P w = .ok i.toNat w := by
  simp [Instr.sliceBound, asIntOf_run, h]

/-- The bounds of a slice expression, as the model finds them. -/
theorem run_bnds {n cap : Nat} {isSl lo hi : Bool} {l h : Option Operand} (H : OpdR fp site w ρ g) (hl : lo = l.isSome) (hh : hi = h.isSome) {xs : List Opd} (hx : okXs xs (l.toList ++ h.toList) = true)
    {c : Prop} {a b : Nat} (hb : bnds n lo hi (xs.map g) = some (c, a, b)) (hc : c) (hn : n ≤ cap) :
    (Instr.sliceBounds isSl n cap (l.map ρ) (h.map ρ) none).run P w = .ok (a, b, cap) w ∧ a ≤ b ∧ b ≤ n := by
  subst hl hh
  cases l with
  | none => cases h with
    | none =>
      have := okXs_nil hx
      subst this
      simp [bnds] at hb
      obtain ⟨h0, rfl, rfl⟩ := hb
      exact ⟨by simp [Instr.sliceBounds], by omega, by omega⟩
    | some y =>
      obtain ⟨x, rfl, h1⟩ := okXs1 (by simpa using hx)
      have H1 := H _ _ h1
      simp only [List.map] at hb
      unfold bnds at hb
      split at hb <;> simp at hb
      rename_i k i e
      simp only [List.cons.injEq, and_true] at e
      rw [e] at H1
      obtain ⟨h0, rfl, rfl⟩ := hb
      have hc := h0.2 hc
      refine ⟨?_, by omega, by omega⟩
      have hc' : 0 ≤ i ∧ i ≤ cap := by omega
      simp [Instr.sliceBounds, H1.int, run_sliceBound hc']
  | some z => cases h with
    | none =>
      obtain ⟨x, rfl, h1⟩ := okXs1 (by simpa using hx)
      have H1 := H _ _ h1
      simp only [List.map] at hb
      unfold bnds at hb
      split at hb <;> simp at hb
      rename_i k i e
      simp only [List.cons.injEq, and_true] at e
      rw [e] at H1
      obtain ⟨h0, rfl, rfl⟩ := hb
      have hc := h0.2 hc
      refine ⟨?_, by omega, by omega⟩
      simp [Instr.sliceBounds, H1.int, run_sliceBound hc]
    | some y =>
      obtain ⟨x, x', rfl, h1, h2⟩ := okXs2 (by simpa using hx)
      have H1 := H _ _ h1
      have H2 := H _ _ h2
      simp only [List.map] at hb
      unfold bnds at hb
      split at hb <;> simp at hb
      rename_i k i k' j e
      simp only [List.cons.injEq, and_true] at e
      rw [e.1] at H1
      rw [e.2] at H2
      obtain ⟨h0, rfl, rfl⟩ := hb
      have hc := h0.2 hc
      have hc1 : 0 ≤ j ∧ j ≤ cap := by omega
      have hc2 : 0 ≤ i ∧ i ≤ (j.toNat : Int) := by omega
      refine ⟨?_, by omega, by omega⟩
      simp [Instr.sliceBounds, H1.int, H2.int, run_sliceBound hc1, run_sliceBound hc2]

theorem ps_indexAddr {arr : Option Nat} {sz : Nat} (H : OpdR fp site w ρ g) (h : okP P (.indexAddr arr sz) xs o.op = true) (hp : pval (.indexAddr arr sz) (xs.map g) = some (c, r)) (hc : c) : PS P fp site w ρ o r := by
  cases hop : o.op <;> simp only [okP, hop, Bool.false_eq_true] at h
  rename_i t y y'
  simp only [Bool.and_eq_true] at h
  obtain ⟨hf, h⟩ := h
  obtain ⟨x, x', rfl, h1, h2⟩ := okXs2 h
  have H1 := H _ _ h1
  have H2 := H _ _ h2
  obtain ⟨e, hu, hsz, hpos⟩ := okArr_spec hf
  cases arr with
  | some n =>
    simp only at hu
    simp only [List.map, pval, pvIndexArr] at hp
    split at hp
    · rename_i xx p k i e
      simp only [List.cons.injEq, and_true] at e
      rw [e.1] at H1
      rw [e.2] at H2
      simp only [Option.some.injEq, Prod.mk.injEq] at hp
      obtain ⟨rfl, rfl⟩ := hp
      obtain ⟨b, hb, e1⟩ := H1.ptr
      exact ⟨.pointer (some ⟨b, p + i.toNat * sz, none⟩), by simp [execOp, hop, Instr.indexAt, e1, H2.int, asIntOf_run, run_underlying hu, Instr.sureAddr, hc, hsz, Addr.add_mid], V2.mkptr hb⟩
    · rename_i l k i e
      simp only [List.cons.injEq, and_true] at e
      rw [e.1] at H1
      rw [e.2] at H2
      simp only [Option.some.injEq, Prod.mk.injEq] at hp
      obtain ⟨rfl, rfl⟩ := hp
      obtain ⟨b, oo, e1, hl⟩ := H1.rp
      refine ⟨.pointer (some ⟨b, oo + i.toNat * sz, none⟩), by simp [execOp, hop, Instr.indexAt, e1, H2.int, asIntOf_run, run_underlying hu, Instr.sureAddr, hc, hsz, Addr.add_mid], V2.mkrp fun j p hj => ?_⟩
      rw [List.getElem?_drop] at hj
      rw [Nat.add_assoc]
      exact hl _ p hj
    · cases hp
  | none =>
    simp only at hu
    simp only [List.map, pval, pvIndexSl] at hp
    split at hp
    · rename_i sz' es k i e
      simp only [List.cons.injEq, and_true] at e
      rw [e.1] at H1
      rw [e.2] at H2
      split at hp
      · rename_i row hrow
        simp only [Option.some.injEq, Prod.mk.injEq] at hp
        obtain ⟨rfl, rfl⟩ := hp
        obtain ⟨hi, rfl⟩ := hc
        have hlt := (List.getElem?_eq_some_iff.1 hrow).1
        obtain ⟨A, cap, e1, _, _, _, hne⟩ := H1.pv.slInv
        obtain ⟨b, oo, rfl, hlen, hcell⟩ := hne (by intro hh; rw [hh] at hlt; simp at hlt)
        have hc2 : 0 ≤ i ∧ i < (es.length : Int) := by omega
        refine ⟨.pointer (some ⟨b, oo + i.toNat * sz', none⟩), by simp [execOp, hop, Instr.indexAt, e1, H2.int, asIntOf_run, run_underlying hu, hc2, hsz, Addr.add_mid], V2.mkrp fun j p hj => hcell _ _ _ _ hrow hj⟩
      · cases hp
    · rename_i xx oo len sz' k i e
      simp only [List.cons.injEq, and_true] at e
      rw [e.1] at H1
      rw [e.2] at H2
      simp only [Option.some.injEq, Prod.mk.injEq] at hp
      obtain ⟨rfl, rfl⟩ := hp
      obtain ⟨hi, hi2, rfl⟩ := hc
      obtain ⟨b, cap, hb, e1, _, _⟩ := H1.sr
      exact ⟨.pointer (some ⟨b, oo + i.toNat * sz', none⟩), by simp [execOp, hop, Instr.indexAt, e1, H2.int, asIntOf_run, run_underlying hu, hi, hi2, hsz, Addr.add_mid], V2.mkptr hb⟩
    · cases hp

theorem getElem?_take_drop {α : Type} {l : List α} {a b i : Nat} {x : α} (h : ((l.take b).drop a)[i]? = some x) : l[a + i]? = some x ∧ a + i < b := by
  rw [List.getElem?_drop, List.getElem?_take] at h
  split at h
  · exact ⟨h, by assumption⟩
  · cases h

theorem ps_slice {arr : Option Nat} {sz : Nat} {lo hi : Bool} (H : OpdR fp site w ρ g) (h : okP P (.slice arr sz lo hi) xs o.op = true) (hp : pval (.slice arr sz lo hi) (xs.map g) = some (c, r)) (hc : c) : PS P fp site w ρ o r := by
  cases hop : o.op <;> simp only [okP, hop, Bool.false_eq_true] at h
  rename_i t y l hh mx
  simp only [Bool.and_eq_true, decide_eq_true_eq, Option.isNone_iff_eq_none] at h
  obtain ⟨⟨⟨⟨⟨hf, hsmall⟩, hl⟩, hhi⟩, rfl⟩, h⟩ := h
  obtain ⟨x, rest, rfl, h1, h2⟩ := okXs_cons h
  have H1 := H _ _ h1
  obtain ⟨e, hu, hsz, hpos⟩ := okArr_spec hf
  cases arr with
  | some n =>
    simp only at hu
    simp only [List.map, pval, pvSliceArr] at hp
    split at hp
    · rename_i xx p rr e
      simp only [List.cons.injEq] at e
      obtain ⟨e, rfl⟩ := e
      rw [e] at H1
      simp only [Option.map_eq_some_iff, Prod.mk.injEq] at hp
      obtain ⟨⟨c', a, b⟩, hb, rfl, rfl⟩ := hp
      obtain ⟨hc', hlt⟩ := hc
      dsimp only at hlt hc'
      obtain ⟨hrun, hab, hbn⟩ := run_bnds (P := P) (isSl := false) H hl hhi h2 hb hc' (Nat.le_refl n)
      obtain ⟨blk, hs, e1⟩ := H1.ptr
      have hca : n ≠ a := by omega
      have hmax : n - a ≤ maxLen := by simp only [Option.getD_some] at hsmall; unfold maxLen; omega
      exact ⟨.slice (some ⟨blk, p + a * sz, none⟩) (b - a) (n - a), by simp [execOp, hop, Instr.sliceAt, e1, Instr.sureAddr, run_underlying hu, hrun, hsz, hca, Addr.add_mid], V2.mksr hs (by omega) hmax⟩
    · cases hp
  | none =>
    simp only at hu
    simp only [List.map, pval, pvSliceSl] at hp
    split at hp
    · rename_i sz' es rr e
      simp only [List.cons.injEq] at e
      obtain ⟨e, rfl⟩ := e
      rw [e] at H1
      simp only [Option.map_eq_some_iff, Prod.mk.injEq] at hp
      obtain ⟨⟨c', a, b⟩, hb, rfl, rfl⟩ := hp
      obtain ⟨rfl, hc'⟩ := hc
      obtain ⟨A, cap, e1, hcap, hmax, hnil, hne⟩ := H1.pv.slInv
      obtain ⟨hrun, hab, hbn⟩ := run_bnds (P := P) (isSl := true) (cap := cap) H hl hhi h2 hb hc' hcap
      have hlen : ((es.take b).drop a).length = b - a := by simp; omega
      refine ⟨.slice (if cap = a then A else A.map (·.add (a * sz'))) (b - a) (cap - a), by simp [execOp, hop, Instr.sliceAt, Instr.slice, e1, run_underlying hu, hrun, hsz], V2.mkpv ?_⟩
      by_cases hz : b - a = 0
      · have : (es.take b).drop a = [] := List.eq_nil_of_length_eq_zero (by omega)
        rw [this, hz]
        refine .sl0 _ _ _ (by omega) fun hA => ?_
        split at hA
        · omega
        · simp at hA; have := hnil hA; omega
      · have hne' : es ≠ [] := by intro hh; subst hh; simp at hbn; omega
        obtain ⟨blk, oo, rfl, hlens, hcell⟩ := hne hne'
        have hca : cap ≠ a := by omega
        simp only [hca, if_false, Option.map_some, Addr.add_mid]
        rw [← hlen]
        refine PR.mksl (by omega) (by omega) (fun r hr => hlens r (List.mem_of_mem_take (List.mem_of_mem_drop hr))) fun i r j p hi hj => ?_
        obtain ⟨g1, _⟩ := getElem?_take_drop hi
        have := hcell _ _ _ _ g1 hj
        rwa [show oo + a * sz' + i * sz' + j = oo + (a + i) * sz' + j by rw [Nat.add_mul]; omega]
    · rename_i xx oo n sz' rr e
      simp only [List.cons.injEq] at e
      obtain ⟨e, rfl⟩ := e
      rw [e] at H1
      simp only [Option.map_eq_some_iff, Prod.mk.injEq] at hp
      obtain ⟨⟨c', a, b⟩, hb, rfl, rfl⟩ := hp
      obtain ⟨rfl, hc', hlt⟩ := hc
      dsimp only at hlt hc'
      obtain ⟨blk, cap, hs, e1, hcap, hmax⟩ := H1.sr
      obtain ⟨hrun, hab, hbn⟩ := run_bnds (P := P) (isSl := true) (cap := cap) H hl hhi h2 hb hc' hcap
      have hca : cap ≠ a := by omega
      exact ⟨.slice (some ⟨blk, oo + a * sz', none⟩) (b - a) (cap - a), by simp [execOp, hop, Instr.sliceAt, Instr.slice, e1, run_underlying hu, hrun, hsz, hca, Addr.add_mid], V2.mksr hs (by omega) (by omega)⟩
    · cases hp
end
end Go.Abs
