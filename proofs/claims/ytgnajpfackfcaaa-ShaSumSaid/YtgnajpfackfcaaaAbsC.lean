/- The abstract machine's operations that only compute answer as the model's do. No condition. -/
import Derived.Test.YtgnajpfackfcaaaAbsB
import Derived.Laws.Slices
import Derived.WalkSpells
import Derived.ChangeKeysEq
set_option linter.unusedVariables false
set_option linter.unusedSimpArgs false
namespace Go.Abs

section
variable {fp : Nat → Nat → Prop} {site : Nat → Option Nat} {w : World} {v : Value}
theorem V2.int {k : IntKind} {n : Int} (h : V2 fp site w v (.pv (.int k n))) : v = .int k n := by obtain ⟨⟨h, _⟩, _⟩ := h; cases h; rfl
theorem V2.bool {b : Bool} (h : V2 fp site w v (.pv (.bool b))) : v = .bool b := by obtain ⟨⟨h, _⟩, _⟩ := h; cases h; rfl
theorem V2.nilp (h : V2 fp site w v (.pv .nilp)) : v = .pointer none := by obtain ⟨⟨h, _⟩, _⟩ := h; cases h; rfl
theorem V2.pv {p : PV} (h : V2 fp site w v (.pv p)) : PR fp w v p := h.1.1
theorem V2.mkpv {p : PV} (h : PR fp w v p) : V2 fp site w v (.pv p) := ⟨⟨h, rfl⟩, fun _ _ => rfl⟩
theorem V2.ptr {x o : Nat} (h : V2 fp site w v (.ptr x o)) : ∃ b, site x = some b ∧ v = .pointer (some ⟨b, o, none⟩) := h.1.1
theorem V2.mkptr {x o b : Nat} (h : site x = some b) : V2 fp site w (.pointer (some ⟨b, o, none⟩)) (.ptr x o) := ⟨⟨⟨b, h, rfl⟩, rfl⟩, fun _ _ => rfl⟩
theorem V2.rp {l : List PV} (h : V2 fp site w v (.rp l)) : ∃ b o, v = .pointer (some ⟨b, o, none⟩) ∧ ∀ (j : Nat) p, l[j]? = some p → fp b (o + j) ∧ ∃ u, w.cell? ⟨b, o + j, none⟩ = some u ∧ PR fp w u p := h.1.1
theorem V2.mkrp {l : List PV} {b o : Nat} (h : ∀ (j : Nat) p, l[j]? = some p → fp b (o + j) ∧ ∃ u, w.cell? ⟨b, o + j, none⟩ = some u ∧ PR fp w u p) : V2 fp site w (.pointer (some ⟨b, o, none⟩)) (.rp l) := ⟨⟨⟨b, o, rfl, h⟩, rfl⟩, fun _ _ => rfl⟩
theorem V2.sr {x o n sz : Nat} (h : V2 fp site w v (.sr x o n sz)) : ∃ b c, site x = some b ∧ v = .slice (some ⟨b, o, none⟩) n c ∧ n ≤ c ∧ c ≤ maxLen := h.1.1
theorem V2.mksr {x o n sz b c : Nat} (h : site x = some b) (h1 : n ≤ c) (h2 : c ≤ maxLen) : V2 fp site w (.slice (some ⟨b, o, none⟩) n c) (.sr x o n sz) := ⟨⟨⟨b, c, h, rfl, h1, h2⟩, rfl⟩, fun _ _ => rfl⟩

theorem VR0.dem0n {c : AV} (h : VR0 fp site w v c none) : VR0 fp site w v c.dem0 none := by
  cases c <;> first | exact h | skip
  rename_i e sz es
  obtain ⟨xs, g1, g2, g3, g4, g5⟩ := h
  rcases g5 with ⟨g5, _⟩ | ⟨_, _, _, _, g6⟩
  · have hn : es.length = 0 := by
      rcases g1.2 with ⟨_, hn⟩ | ⟨g, cap, cur, hh, _⟩
      · exact hn
      · rw [g5] at hh; cases hh
    have : es = [] := List.eq_nil_of_length_eq_zero hn
    subst this
    rw [g5]
    exact ⟨.sl0 _ _ _ (Nat.zero_le _) (fun _ => rfl), rfl⟩
  · cases g6
theorem V2.of0 {a : AV} (h : VR0 fp site w v a none) : V2 fp site w v a := by
  cases a <;> first | exact ⟨h, fun _ _ => rfl⟩ | exact h.elim

theorem V2.getc {a r : AV} {o : Nat} (h : V2 fp site w v a) (hr : getc a o = some r) (ha : a.isAgg) : ∃ cs u, v = .agg cs ∧ cs[o]? = some u ∧ VR0 fp site w u r none := by
  cases a <;> simp only [AV.isAgg] at ha
  · rename_i l
    obtain ⟨⟨cs, rfl, h1⟩, _⟩ := h
    simp only [Abs.getc, Option.map_eq_some_iff] at hr
    obtain ⟨p, hp, rfl⟩ := hr
    obtain ⟨u, hu, hpr⟩ := h1.get hp
    exact ⟨cs, u, rfl, by simpa using hu, hpr, rfl⟩
  · rename_i l
    obtain ⟨⟨cs, rfl, h1, h2⟩, _⟩ := h
    simp only [Abs.getc, Option.map_eq_some_iff] at hr
    obtain ⟨c, hc, rfl⟩ := hr
    have ho : o < cs.size := by rw [h1]; exact (List.getElem?_eq_some_iff.1 hc).1
    exact ⟨cs, cs[o], rfl, Array.getElem?_eq_getElem ho, VR0.dem0n (h2 o c cs[o] hc (Array.getElem?_eq_getElem ho))⟩

theorem V2.getr {a r : AV} {o n : Nat} (h : V2 fp site w v a) (hr : getr a o n = some r) (ha : a.isAgg) : ∃ cs, v = .agg cs ∧ V2 fp site w (.agg (cs.extract o (o + n))) r := by
  cases a <;> simp only [AV.isAgg] at ha
  · rename_i l
    obtain ⟨⟨cs, rfl, h1⟩, _⟩ := h
    simp only [Abs.getr, Option.some.injEq] at hr
    subst hr
    refine ⟨cs, rfl, ⟨_, rfl, ?_⟩, fun _ => rfl⟩
    have := (h1.drop o).take n
    rw [Array.toList_extract]
    simpa [List.extract_eq_take_drop] using this
  · rename_i l
    have hh := h
    obtain ⟨⟨cs, rfl, h1, h2⟩, _⟩ := h
    simp only [Abs.getr, Option.some.injEq] at hr
    subst hr
    refine ⟨cs, rfl, ⟨_, rfl, ?_, ?_⟩, fun _ _ => rfl⟩
    · simp [h1]; omega
    · intro j c u hc hu
      rw [List.getElem?_map, List.getElem?_take, Option.map_eq_some_iff] at hc
      obtain ⟨c', hc, rfl⟩ := hc
      split at hc
      · rw [List.getElem?_drop] at hc
        obtain ⟨cs', u', e, hu', hv⟩ := V2.getc (r := c'.dem0) (o := o + j) hh (by simp [Abs.getc, hc]) trivial
        cases e
        rw [Array.getElem?_extract] at hu
        split at hu
        · rw [hu'] at hu
          cases hu
          exact hv
        · cases hu
      · cases hc

/-- A part of an aggregate value. -/
theorem run_part {P : Program} {t : TypeId} {a r : AV} {o : Nat} {n : Option Nat} (h : V2 fp site w v a) (hr : part1 a o n = some r) (ha : a.isAgg) (ht : okPart P t n = true) :
    ∃ cs u, v = .agg cs ∧ (part t cs o).run P w = .ok u w ∧ V2 fp site w u r := by
  unfold okPart at ht
  unfold part1 at hr
  cases n with
  | none =>
    simp only [Bool.and_eq_true, decide_eq_true_eq] at ht
    obtain ⟨cs, u, rfl, hu, hv⟩ := h.getc hr ha
    refine ⟨cs, u, rfl, ?_, V2.of0 hv⟩
    obtain ⟨h1, _⟩ := ht
    unfold isAggT at h1
    cases hd : P.underlying t with
    | none => simp [hd] at h1
    | some d =>
      rw [hd] at h1
      cases d <;> simp at h1 <;> simp [part, isAgg, run_underlying hd, hu]
  | some n =>
    simp only [Bool.and_eq_true, decide_eq_true_eq, szOf] at ht
    obtain ⟨cs, rfl, hv⟩ := h.getr hr ha
    refine ⟨cs, _, rfl, ?_, hv⟩
    obtain ⟨h1, h2⟩ := ht
    obtain ⟨i, hi, hn⟩ := Option.map_eq_some_iff.1 h2
    subst hn
    unfold isAggT at h1
    cases hd : P.underlying t with
    | none => simp [hd] at h1
    | some d =>
      rw [hd] at h1
      cases d <;> simp at h1 <;> simp [part, isAgg, run_underlying hd, sizeOf, typeInfo, hi]

theorem okXs1 {xs : List Opd} {y : Operand} (h : okXs xs [y] = true) : ∃ x, xs = [x] ∧ okX x y = true := by
  cases xs with
  | nil => simp [okXs] at h
  | cons x r => cases r with
    | nil => exact ⟨x, rfl, by simpa [okXs] using h⟩
    | cons _ _ => simp [okXs] at h
theorem okXs_cons {xs : List Opd} {y : Operand} {ys : List Operand} (h : okXs xs (y :: ys) = true) : ∃ x r, xs = x :: r ∧ okX x y = true ∧ okXs r ys = true := by
  cases xs with
  | nil => simp [okXs] at h
  | cons x r => exact ⟨x, r, rfl, by simpa [okXs] using h⟩
theorem okXs_nil {xs : List Opd} (h : okXs xs [] = true) : xs = [] := by
  cases xs with
  | nil => rfl
  | cons _ _ => simp [okXs] at h
theorem okXs2 {xs : List Opd} {y y' : Operand} (h : okXs xs [y, y'] = true) : ∃ x x', xs = [x, x'] ∧ okX x y = true ∧ okX x' y' = true := by
  obtain ⟨x, r, rfl, h1, h2⟩ := okXs_cons h
  obtain ⟨x', rfl, h3⟩ := okXs1 h2
  exact ⟨x, x', rfl, h1, h3⟩
theorem okXs3 {xs : List Opd} {y y' y'' : Operand} (h : okXs xs [y, y', y''] = true) : ∃ x x' x'', xs = [x, x', x''] ∧ okX x y = true ∧ okX x' y' = true ∧ okX x'' y'' = true := by
  obtain ⟨x, r, rfl, h1, h2⟩ := okXs_cons h
  obtain ⟨x', x'', rfl, h3, h4⟩ := okXs2 h2
  exact ⟨x, x', x'', rfl, h1, h3, h4⟩

/-- What the operands answer. -/
def OpdR (fp : Nat → Nat → Prop) (site : Nat → Option Nat) (w : World) (ρ : Operand → Value) (g : Opd → AV) : Prop := ∀ x y, okX x y = true → V2 fp site w (ρ y) (g x)

def PS (P : Program) (fp : Nat → Nat → Prop) (site : Nat → Option Nat) (w : World) (ρ : Operand → Value) (o : Oper) (r : AV) : Prop :=
  ∃ v, (execOp ρ o).run P w = .ok (.value v) w ∧ V2 fp site w v r

variable {P : Program} {ρ : Operand → Value} {g : Opd → AV} {o : Oper} {xs : List Opd} {c : Prop} {r : AV}

theorem ps_id (H : OpdR fp site w ρ g) (h : okP P .id xs o.op = true) (hp : pval .id (xs.map g) = some (c, r)) (hc : c) : PS P fp site w ρ o r := by
  cases hop : o.op <;> simp only [okP, hop, Bool.false_eq_true] at h
  all_goals
    obtain ⟨x, rfl, hx⟩ := okXs1 h
    simp only [List.map, pval, Option.some.injEq, Prod.mk.injEq] at hp
    obtain ⟨_, rfl⟩ := hp
    exact ⟨_, by simp [execOp, hop], H _ _ hx⟩

theorem ps_pick (H : OpdR fp site w ρ g) (h : okP P .pick xs o.op = true) (hp : pval .pick (xs.map g) = some (c, r)) (hc : c) : PS P fp site w ρ o r := by
  cases hop : o.op <;> simp only [okP, hop, Bool.false_eq_true] at h
  obtain ⟨x, x', x'', rfl, h1, h2, h3⟩ := okXs3 h
  have H1 := H _ _ h1
  have H2 := H _ _ h2
  have H3 := H _ _ h3
  simp only [List.map, pval, pvPick] at hp
  split at hp
  · rename_i c' a b e
    simp only [List.cons.injEq, and_true] at e
    obtain ⟨e1, rfl, rfl⟩ := e
    simp only [Option.some.injEq, Prod.mk.injEq] at hp
    obtain ⟨_, rfl⟩ := hp
    rw [e1] at H1
    have := H1.bool
    cases c'
    · exact ⟨_, by simp [execOp, hop, this, asBool], H3⟩
    · exact ⟨_, by simp [execOp, hop, this, asBool], H2⟩
  · simp at hp

theorem guard_int (op : BinOp) (t : TypeId) (x y : Operand) (k k' : IntKind) (a b : Int) : (eqGuard op t x y (.int k a) (.int k' b)).run P w = .ok () w := by
  unfold eqGuard
  cases op <;> simp
theorem guard_bool (op : BinOp) (t : TypeId) (x y : Operand) (a b : Bool) : (eqGuard op t x y (.bool a) (.bool b)).run P w = .ok () w := by
  unfold eqGuard
  cases op <;> simp
theorem guard_ptr (op : BinOp) (t : TypeId) (x y : Operand) (a b : Option Addr) : (eqGuard op t x y (.pointer a) (.pointer b)).run P w = .ok () w := by
  unfold eqGuard
  cases op <;> simp

theorem equalIn_bool (d : Nat) {t : TypeId} (h : P.underlying t = some .bool) (a b : Bool) : (Op.equalIn (d + 1) t (.bool a) (.bool b)).run P w = .ok (a == b) w := by
  simp [Op.equalIn, run_underlying h]
theorem equal_bool {t : TypeId} (h : P.underlying t = some .bool) (a b : Bool) : (Op.equal t (.bool a) (.bool b)).run P w = .ok (a == b) w := equalIn_bool 9999 h a b
theorem equalIn_ptr0 (d : Nat) {t el : TypeId} (h : P.underlying t = some (.pointer el)) (a : Option Addr) : (Op.equalIn (d + 1) t (.pointer a) (.pointer none)).run P w = .ok a.isNone w := by
  cases a <;> simp [Op.equalIn, run_underlying h]
theorem equal_ptr0 {t el : TypeId} (h : P.underlying t = some (.pointer el)) (a : Option Addr) : (Op.equal t (.pointer a) (.pointer none)).run P w = .ok a.isNone w := equalIn_ptr0 9999 h a

theorem run_shift {op : BinOp} {t : TypeId} {k k' : IntKind} {a b : Int} {c : Prop} {p : PV} (h : sbin op k a b = some (c, p)) (hc : c) :
    ∃ v, (binOp op t (.int k a) (.int k' b)).run P w = .ok v w ∧ PR fp w v p := by
  cases op <;> simp only [sbin, Option.some.injEq, Prod.mk.injEq, reduceCtorEq] at h
  all_goals
    obtain ⟨rfl, rfl⟩ := h
    have : ¬ b < 0 := by omega
    exact ⟨_, by simp only [binOp, Op.shift, this, if_false]; rfl, .int _ _⟩

theorem run_ibin {op : BinOp} {t : TypeId} {k : IntKind} {a b : Int} {c : Prop} {p : PV} (hs : isShift op = false) (h : ibin op k a b = some (c, p)) (hc : c) :
    ∃ v, (binOp op t (.int k a) (.int k b)).run P w = .ok v w ∧ PR fp w v p := by
  cases op <;> simp only [ibin, Option.some.injEq, Prod.mk.injEq, reduceCtorEq] at h <;> simp only [isShift, Bool.true_eq_false] at hs
  all_goals obtain ⟨rfl, rfl⟩ := h
  all_goals first
    | (refine ⟨_, ?_, .int _ _⟩; simp [binOp, Op.intArith]; done)
    | (refine ⟨_, ?_, .int _ _⟩; simp [binOp, Op.intDiv, hc]; done)
    | (refine ⟨_, ?_, .bool _⟩; simp [binOp, Op.intCmp]; done)
    | (refine ⟨_, ?_, .int _ _⟩; simp only [binOp_and, binOp_or, binOp_xor, binOp_andNot]; rfl)

theorem ps_bin {op : BinOp} (H : OpdR fp site w ρ g) (h : okP P (.bin op) xs o.op = true) (hp : pval (.bin op) (xs.map g) = some (c, r)) (hc : c) : PS P fp site w ρ o r := by
  cases hop : o.op <;> simp only [okP, hop, Bool.false_eq_true] at h
  rename_i op' t y y' t'
  simp only [Bool.and_eq_true, decide_eq_true_eq] at h
  obtain ⟨rfl, h⟩ := h
  obtain ⟨x, x', rfl, h1, h2⟩ := okXs2 h
  have H1 := H _ _ h1
  have H2 := H _ _ h2
  simp only [List.map, pval, pvBin] at hp
  split at hp
  · rename_i k a k' b e
    simp only [List.cons.injEq, and_true] at e
    rw [e.1] at H1
    rw [e.2] at H2
    have e1 := H1.int
    have e2 := H2.int
    split at hp
    · rename_i hs
      simp only [Option.map_eq_some_iff, Prod.mk.injEq] at hp
      obtain ⟨⟨c', p⟩, hp, rfl, rfl⟩ := hp
      obtain ⟨v, hv, hr⟩ := run_shift (P := P) (w := w) (fp := fp) (t := t) (k' := k') hp hc
      exact ⟨v, by simp [execOp, hop, e1, e2, guard_int, hv], V2.mkpv hr⟩
    · rename_i hs
      split at hp
      · rename_i hk
        subst hk
        simp only [Option.map_eq_some_iff, Prod.mk.injEq] at hp
        obtain ⟨⟨c', p⟩, hp, rfl, rfl⟩ := hp
        obtain ⟨v, hv, hr⟩ := run_ibin (P := P) (w := w) (fp := fp) (t := t) (by simpa using hs) hp hc
        exact ⟨v, by simp [execOp, hop, e1, e2, guard_int, hv], V2.mkpv hr⟩
      · cases hp
  · cases hp

theorem ps_beq {neg : Bool} (H : OpdR fp site w ρ g) (h : okP P (.beq neg) xs o.op = true) (hp : pval (.beq neg) (xs.map g) = some (c, r)) (hc : c) : PS P fp site w ρ o r := by
  cases hop : o.op <;> simp only [okP, hop, Bool.false_eq_true] at h
  rename_i op' t y y' t'
  simp only [Bool.and_eq_true, decide_eq_true_eq] at h
  obtain ⟨⟨rfl, hu⟩, h⟩ := h
  obtain ⟨x, x', rfl, h1, h2⟩ := okXs2 h
  have H1 := H _ _ h1
  have H2 := H _ _ h2
  simp only [List.map, pval, pvBeq] at hp
  split at hp
  · rename_i a b e
    simp only [List.cons.injEq, and_true] at e
    rw [e.1] at H1
    rw [e.2] at H2
    have e1 := H1.bool
    have e2 := H2.bool
    simp only [Option.some.injEq, Prod.mk.injEq] at hp
    obtain ⟨_, rfl⟩ := hp
    have hd : P.underlying t = some .bool := by
      unfold uBool at hu
      split at hu
      · assumption
      · cases hu
    refine ⟨_, ?_, V2.mkpv (.bool _)⟩
    cases neg <;> simp [execOp, hop, e1, e2, guard_bool, binOp, equal_bool hd, bne]
  · cases hp

theorem ps_peq {neg : Bool} (H : OpdR fp site w ρ g) (h : okP P (.peq neg) xs o.op = true) (hp : pval (.peq neg) (xs.map g) = some (c, r)) (hc : c) : PS P fp site w ρ o r := by
  cases hop : o.op <;> simp only [okP, hop, Bool.false_eq_true] at h
  rename_i op' t y y' t'
  simp only [Bool.and_eq_true, decide_eq_true_eq] at h
  obtain ⟨⟨rfl, hu⟩, h⟩ := h
  obtain ⟨x, x', rfl, h1, h2⟩ := okXs2 h
  have H1 := H _ _ h1
  have H2 := H _ _ h2
  obtain ⟨el, hd⟩ : ∃ el, P.underlying t = some (.pointer el) := by
    unfold uPtr at hu
    split at hu
    · rename_i e he; exact ⟨e, he⟩
    · cases hu
  simp only [List.map, pval, pvPeq] at hp
  split at hp
  · rename_i e
    simp only [List.cons.injEq, and_true] at e
    rw [e.1] at H1
    rw [e.2] at H2
    have e1 := H1.nilp
    have e2 := H2.nilp
    simp only [Option.some.injEq, Prod.mk.injEq] at hp
    obtain ⟨_, rfl⟩ := hp
    refine ⟨_, ?_, V2.mkpv (.bool _)⟩
    cases neg <;> simp [execOp, hop, e1, e2, guard_ptr, binOp, equal_ptr0 hd]
  · rename_i a b e
    simp only [List.cons.injEq, and_true] at e
    rw [e.1] at H1
    rw [e.2] at H2
    obtain ⟨bb, _, e1⟩ := H1.ptr
    have e2 := H2.nilp
    simp only [Option.some.injEq, Prod.mk.injEq] at hp
    obtain ⟨_, rfl⟩ := hp
    refine ⟨_, ?_, V2.mkpv (.bool _)⟩
    cases neg <;> simp [execOp, hop, e1, e2, guard_ptr, binOp, equal_ptr0 hd]
  · rename_i a e
    simp only [List.cons.injEq, and_true] at e
    rw [e.1] at H1
    rw [e.2] at H2
    obtain ⟨bb, oo, e1, _⟩ := H1.rp
    have e2 := H2.nilp
    simp only [Option.some.injEq, Prod.mk.injEq] at hp
    obtain ⟨_, rfl⟩ := hp
    refine ⟨_, ?_, V2.mkpv (.bool _)⟩
    cases neg <;> simp [execOp, hop, e1, e2, guard_ptr, binOp, equal_ptr0 hd]
  · cases hp

theorem equalIn_int (d : Nat) {t : TypeId} {k : IntKind} (h : P.underlying t = some (.int k)) (a b : Int) : (Op.equalIn (d + 1) t (.int k a) (.int k b)).run P w = .ok (a == b) w := by
  simp [Op.equalIn, run_underlying h]
theorem kPV_int {k : IntKind} {p : PV} (h : kPV k p = true) : ∃ a, p = .int k a := by
  cases p <;> simp [kPV] at h
  exact ⟨_, by rw [h]⟩
theorem part_one {e : TypeId} {xs : Array Value} {i : Nat} {k : IntKind} {a : Int} (hs : szOf P e 1 = true) (hg : isAggT P e = some false) (h : xs[i]? = some (.int k a)) : (part e xs i).run P w = .ok (.int k a) w := by
  have hlt : i < xs.size := (Array.getElem?_eq_some_iff.1 h).1
  simp only [szOf, decide_eq_true_eq] at hs
  obtain ⟨ie, hie, hn⟩ := Option.map_eq_some_iff.1 hs
  have hx : xs[i] = .int k a := (Array.getElem?_eq_some_iff.1 h).2
  have hag : (isAgg e).run P w = .ok false w := by
    unfold isAggT at hg
    cases hd : P.underlying e with
    | none => simp [hd] at hg
    | some d => rw [hd] at hg; cases d <;> simp at hg <;> simp [isAgg, run_underlying hd]
  simp [part, sizeOf, typeInfo, hie, hn, hag, hlt, hx]
theorem run_eqItems_int (d : Nat) {e : TypeId} {k : IntKind} (he : P.underlying e = some (.int k)) (hs : szOf P e 1 = true) (hc : P.cellsOf e = 1) (xs ys : Array Value) : ∀ (is : List Nat), (∀ i ∈ is, ∃ a b, xs[i]? = some (.int k a) ∧ ys[i]? = some (.int k b)) →
    (Op.eqItems (d + 1) e (P.cellsOf e) xs ys is).run P w = .ok (is.all fun i => match xs[i]?, ys[i]? with
      | some (.int _ a), some (.int _ b) => a == b
      | _, _ => false) w
  | [], _ => by simp [Op.eqItems]
  | i :: is, h => by
    obtain ⟨a, b, h1, h2⟩ := h i (by simp)
    have hg : isAggT P e = some false := by simp [isAggT, he]
    have ih := run_eqItems_int d he hs hc xs ys is (fun j hj => h j (by simp [hj]))
    rw [hc] at ih ⊢
    simp only [Op.eqItems, Sem.run_bind, Nat.mul_one, part_one hs hg h1, part_one hs hg h2, Result.andThen_ok, equalIn_int d he, List.all_cons, h1, h2]
    cases hab : a == b
    · simp
    · simpa using ih
theorem eqPVs_all {k : IntKind} : ∀ {l m : List PV} {cs ds : List Value}, l.length = m.length → PRs fp w cs l → PRs fp w ds m → l.all (kPV k) = true → m.all (kPV k) = true →
    ((List.range l.length).all fun i => match cs[i]?, ds[i]? with
      | some (.int _ a), some (.int _ b) => a == b
      | _, _ => false) = eqPVs l m
  | [], [], cs, ds, _, h1, h2, _, _ => by simp [eqPVs]
  | p :: l, q :: m, cs, ds, hl, h1, h2, ha, hb => by
    have hcl := h1.1
    have hdl := h2.1
    cases cs with
    | nil => simp at hcl
    | cons c cs =>
      cases ds with
      | nil => simp at hdl
      | cons d ds =>
        simp only [List.all_cons, Bool.and_eq_true] at ha hb
        obtain ⟨a, rfl⟩ := kPV_int ha.1
        obtain ⟨b, rfl⟩ := kPV_int hb.1
        have e1 := h1.2 0 c _ rfl rfl
        have e2 := h2.2 0 d _ rfl rfl
        cases e1
        cases e2
        have t1 : PRs fp w cs l := h1.drop 1
        have t2 : PRs fp w ds m := h2.drop 1
        have ih := eqPVs_all (by simpa using hl) t1 t2 ha.2 hb.2
        rw [List.length_cons, List.range_succ_eq_map, List.all_cons, List.all_map]
        simp only [eqPVs, eqPV]
        rw [← ih]
        rfl
  | [], _ :: _, _, _, hl, _, _, _, _ => by simp at hl
  | _ :: _, [], _, _, hl, _, _, _, _ => by simp at hl
theorem ps_aeq {neg : Bool} {n : Nat} {k : IntKind} (H : OpdR fp site w ρ g) (h : okP P (.aeq neg n k) xs o.op = true) (hp : pval (.aeq neg n k) (xs.map g) = some (c, r)) (hc : c) : PS P fp site w ρ o r := by
  cases hop : o.op <;> simp only [okP, hop, Bool.false_eq_true] at h
  rename_i op' t y y' t'
  simp only [Bool.and_eq_true, decide_eq_true_eq, Bool.not_eq_true'] at h
  obtain ⟨⟨⟨rfl, hu⟩, hgd⟩, h⟩ := h
  obtain ⟨x, x', rfl, h1, h2⟩ := okXs2 h
  have H1 := H _ _ h1
  have H2 := H _ _ h2
  simp only [List.map, pval, pvAeq] at hp
  split at hp
  · rename_i l m e
    simp only [List.cons.injEq, and_true] at e
    rw [e.1] at H1
    rw [e.2] at H2
    obtain ⟨⟨cs, e1, p1⟩, _⟩ := H1
    obtain ⟨⟨ds, e2, p2⟩, _⟩ := H2
    simp only [Option.some.injEq, Prod.mk.injEq] at hp
    obtain ⟨rfl, rfl⟩ := hp
    obtain ⟨q1, q2, q3, q4⟩ := hc
    split at hu
    · rename_i n' el hd
      simp only [Bool.and_eq_true, beq_iff_eq] at hu
      obtain ⟨⟨rfl, hi⟩, hs⟩ := hu
      have hel : P.underlying el = some (.int k) := by
        unfold uInt at hi
        split at hi
        · rename_i k' hk'; simp at hi; subst hi; exact hk'
        · cases hi
      have hce : P.cellsOf el = 1 := by
        simp only [szOf, decide_eq_true_eq] at hs
        simp [Program.cellsOf, hs]
      obtain ⟨ie, hie⟩ : ∃ i, P.info? el = some i := info_of_underlying hel
      have hat : ∀ i ∈ List.range n, ∃ a b, cs[i]? = some (.int k a) ∧ ds[i]? = some (.int k b) := fun i hi => by
        have hin : i < n := List.mem_range.1 hi
        obtain ⟨v1, g1, g2⟩ := p1.get (j := i) (p := l[i]) (List.getElem?_eq_getElem (by omega))
        obtain ⟨v2, g3, g4⟩ := p2.get (j := i) (p := m[i]) (List.getElem?_eq_getElem (by omega))
        obtain ⟨a, ha⟩ := kPV_int (List.all_eq_true.1 q3 _ (List.getElem_mem (l := l) (by omega : i < l.length)))
        obtain ⟨b, hb⟩ := kPV_int (List.all_eq_true.1 q4 _ (List.getElem_mem (l := m) (by omega : i < m.length)))
        rw [ha] at g2
        rw [hb] at g4
        cases g2
        cases g4
        exact ⟨a, b, by rw [← Array.getElem?_toList]; exact g1, by rw [← Array.getElem?_toList]; exact g3⟩
      have hrun := run_eqItems_int (w := w) 9998 hel hs hce cs ds (List.range n) hat
      rw [← run_equalIn_array w 9999 cs ds hd hie] at hrun
      have hall := eqPVs_all (k := k) (cs := cs.toList) (ds := ds.toList) (by omega) p1 p2 q3 q4
      rw [q1] at hall
      simp only [Array.getElem?_toList] at hall
      rw [hall] at hrun
      have heq : (Op.equal t (.agg cs) (.agg ds)).run P w = .ok (eqPVs l m) w := hrun
      refine ⟨.bool (if neg then !eqPVs l m else eqPVs l m), ?_, V2.mkpv (.bool _)⟩
      cases neg <;> simp [execOp, hop, e1, e2, eqGuard, hgd, binOp, heq]
    · cases hu
  · cases hp

theorem ps_un {op : UnOp} (H : OpdR fp site w ρ g) (h : okP P (.un op) xs o.op = true) (hp : pval (.un op) (xs.map g) = some (c, r)) (hc : c) : PS P fp site w ρ o r := by
  cases hop : o.op <;> simp only [okP, hop, Bool.false_eq_true] at h
  simp only [Bool.and_eq_true, decide_eq_true_eq] at h
  obtain ⟨rfl, h⟩ := h
  obtain ⟨x, rfl, h1⟩ := okXs1 h
  have H1 := H _ _ h1
  simp only [List.map, pval, pvUn] at hp
  split at hp
  · rename_i b e
    simp only [List.cons.injEq, and_true] at e
    rw [e] at H1
    have e1 := H1.bool
    split at hp
    · rename_i ho
      subst ho
      simp only [Option.some.injEq, Prod.mk.injEq] at hp
      obtain ⟨_, rfl⟩ := hp
      exact ⟨_, by simp [execOp, hop, e1, Op.unary], V2.mkpv (.bool _)⟩
    · cases hp
  · rename_i k n e
    simp only [List.cons.injEq, and_true] at e
    rw [e] at H1
    have e1 := H1.int
    split at hp
    · rename_i ho
      subst ho
      simp only [Option.some.injEq, Prod.mk.injEq] at hp
      obtain ⟨_, rfl⟩ := hp
      exact ⟨_, by simp [execOp, hop, e1, Op.unary, Op.intArith], V2.mkpv (.int _ _)⟩
    · split at hp
      · rename_i ho
        subst ho
        simp only [Option.some.injEq, Prod.mk.injEq] at hp
        obtain ⟨_, rfl⟩ := hp
        exact ⟨_, by simp [execOp, hop, e1, Op.unary]; rfl, V2.mkpv (.int _ _)⟩
      · cases hp
  · cases hp

theorem ps_conv {k : IntKind} (H : OpdR fp site w ρ g) (h : okP P (.conv k) xs o.op = true) (hp : pval (.conv k) (xs.map g) = some (c, r)) (hc : c) : PS P fp site w ρ o r := by
  cases hop : o.op <;> simp only [okP, hop, Bool.false_eq_true] at h
  simp only [Bool.and_eq_true] at h
  obtain ⟨⟨hs, hd⟩, h⟩ := h
  obtain ⟨x, rfl, h1⟩ := okXs1 h
  have H1 := H _ _ h1
  obtain ⟨ds, hds⟩ := Option.isSome_iff_exists.1 hs
  rename_i src dst y
  have hdd : P.underlying dst = some (.int k) := by
    unfold uInt at hd
    split at hd
    · rename_i k' hk; simp at hd; subst hd; exact hk
    · cases hd
  simp only [List.map, pval, pvConv] at hp
  split at hp
  · rename_i k' n e
    simp only [List.cons.injEq, and_true] at e
    rw [e] at H1
    have e1 := H1.int
    simp only [Option.some.injEq, Prod.mk.injEq] at hp
    obtain ⟨_, rfl⟩ := hp
    exact ⟨_, by simp [execOp, hop, e1, convert, run_underlying hds, run_underlying hdd, Conv.intToInt], V2.mkpv (.int _ _)⟩
  · cases hp

theorem ps_field {off : Nat} {n : Option Nat} (H : OpdR fp site w ρ g) (h : okP P (.field off n) xs o.op = true) (hp : pval (.field off n) (xs.map g) = some (c, r)) (hc : c) : PS P fp site w ρ o r := by
  cases hop : o.op <;> simp only [okP, hop, Bool.false_eq_true] at h
  rename_i t y f
  simp only [Bool.and_eq_true] at h
  obtain ⟨hf, h⟩ := h
  obtain ⟨x, rfl, h1⟩ := okXs1 h
  have H1 := H _ _ h1
  split at hf
  · rename_i fd hfd
    simp only [Bool.and_eq_true, beq_iff_eq] at hf
    obtain ⟨rfl, hpt⟩ := hf
    unfold fieldOf at hfd
    split at hfd
    · rename_i fs hfs
      have key : ∀ a, part1 a fd.offset n = some r → a.isAgg → V2 fp site w (ρ y) a → PS P fp site w ρ o r := by
        intro a hr ha hv
        obtain ⟨cs, u, e, hrun, hv⟩ := run_part (P := P) hv hr ha hpt
        exact ⟨u, by simp [execOp, hop, Instr.field, e, run_underlying hfs, hfd, asAgg, hrun], hv⟩
      simp only [List.map, pval, pvField] at hp
      split at hp
      · rename_i l e
        simp only [List.cons.injEq, and_true] at e
        rw [e] at H1
        simp only [Option.map_eq_some_iff, Prod.mk.injEq] at hp
        obtain ⟨r', hr, _, rfl⟩ := hp
        exact key _ hr trivial H1
      · rename_i l e
        simp only [List.cons.injEq, and_true] at e
        rw [e] at H1
        simp only [Option.map_eq_some_iff, Prod.mk.injEq] at hp
        obtain ⟨r', hr, _, rfl⟩ := hp
        exact key _ hr trivial H1
      · cases hp
    · cases hfd
  · cases hf

theorem ps_index {len sz : Nat} {n : Option Nat} (H : OpdR fp site w ρ g) (h : okP P (.index len sz n) xs o.op = true) (hp : pval (.index len sz n) (xs.map g) = some (c, r)) (hc : c) : PS P fp site w ρ o r := by
  cases hop : o.op <;> simp only [okP, hop, Bool.false_eq_true] at h
  rename_i t y y'
  simp only [Bool.and_eq_true] at h
  obtain ⟨hf, h⟩ := h
  obtain ⟨x, x', rfl, h1, h2⟩ := okXs2 h
  have H1 := H _ _ h1
  have H2 := H _ _ h2
  split at hf
  · rename_i len' e' hfd
    simp only [Bool.and_eq_true, beq_iff_eq, szOf, decide_eq_true_eq] at hf
    obtain ⟨⟨rfl, hsz⟩, hpt⟩ := hf
    obtain ⟨inf, hi, hsn⟩ := Option.map_eq_some_iff.1 hsz
    unfold arrOf at hfd
    split at hfd <;> simp only [Option.some.injEq, Prod.mk.injEq, reduceCtorEq, false_and] at hfd
    rename_i n' e'' hu
    obtain ⟨rfl, rfl⟩ := hfd
    have key : ∀ a k i, (part1 a (i.toNat * sz) n).map (fun r => (0 ≤ i ∧ i < (n' : Int), r)) = some (c, r) → a.isAgg → V2 fp site w (ρ y) a → V2 fp site w (ρ y') (.pv (.int k i)) → PS P fp site w ρ o r := by
      intro a k i hr ha hv hv'
      simp only [Option.map_eq_some_iff, Prod.mk.injEq] at hr
      obtain ⟨r', hr, rfl, rfl⟩ := hr
      obtain ⟨cs, u, e, hrun, hv⟩ := run_part (P := P) hv hr ha hpt
      have e2 := hv'.int
      exact ⟨u, by simp [execOp, hop, Instr.index, e, e2, asIntOf, run_underlying hu, hc, sizeOf, typeInfo, hi, hsn, hrun], hv⟩
    simp only [List.map, pval, pvIndex] at hp
    split at hp
    · rename_i l k i e
      simp only [List.cons.injEq, and_true] at e
      rw [e.1] at H1
      rw [e.2] at H2
      exact key _ _ _ hp trivial H1 H2
    · rename_i l k i e
      simp only [List.cons.injEq, and_true] at e
      rw [e.1] at H1
      rw [e.2] at H2
      exact key _ _ _ hp trivial H1 H2
    · cases hp
  · cases hf

theorem ps_fieldAddr {off : Nat} (H : OpdR fp site w ρ g) (h : okP P (.fieldAddr off) xs o.op = true) (hp : pval (.fieldAddr off) (xs.map g) = some (c, r)) (hc : c) : PS P fp site w ρ o r := by
  cases hop : o.op <;> simp only [okP, hop, Bool.false_eq_true] at h
  rename_i t y f
  simp only [Bool.and_eq_true] at h
  obtain ⟨hf, h⟩ := h
  obtain ⟨x, rfl, h1⟩ := okXs1 h
  have H1 := H _ _ h1
  split at hf
  · rename_i fd hfd
    simp only [Bool.and_eq_true, beq_iff_eq] at hf
    obtain ⟨rfl, hpt⟩ := hf
    unfold fieldOf at hfd
    split at hfd
    · rename_i fs hfs
      split at hpt
      · rename_i m hm
        obtain ⟨inf, hi, hsn⟩ := Option.map_eq_some_iff.1 hm
        simp only [List.map, pval, pvFieldAddr] at hp
        split at hp
        · rename_i xx p e
          simp only [List.cons.injEq, and_true] at e
          rw [e] at H1
          simp only [Option.some.injEq, Prod.mk.injEq] at hp
          obtain ⟨_, rfl⟩ := hp
          obtain ⟨b, hb, e1⟩ := H1.ptr
          exact ⟨.pointer (some ⟨b, p + fd.offset, none⟩), by simp [execOp, hop, Instr.fieldAt, e1, run_underlying hfs, hfd, Instr.sureAddr, fieldPlace, sizeOf, typeInfo, hi, hsn, Addr.add_mid], V2.mkptr hb⟩
        · rename_i l e
          simp only [List.cons.injEq, and_true] at e
          rw [e] at H1
          simp only [Option.some.injEq, Prod.mk.injEq] at hp
          obtain ⟨_, rfl⟩ := hp
          obtain ⟨b, oo, e1, hl⟩ := H1.rp
          refine ⟨.pointer (some ⟨b, oo + fd.offset, none⟩), by simp [execOp, hop, Instr.fieldAt, e1, run_underlying hfs, hfd, Instr.sureAddr, fieldPlace, sizeOf, typeInfo, hi, hsn, Addr.add_mid], V2.mkrp fun j p hj => ?_⟩
          rw [List.getElem?_drop] at hj
          rw [Nat.add_assoc]
          exact hl _ p hj
        · cases hp
      · cases hpt
    · cases hfd
  · cases hf
end
end Go.Abs
