/- The abstract machine's operations that only compute: the rest, and all together. No condition. -/
import Derived.Test.YtgnajpfackfcaaaAbsD
set_option linter.unusedVariables false
set_option linter.unusedSimpArgs false
namespace Go.Abs

theorem flat_get {α : Type} {sz : Nat} : ∀ {es : List (List α)} {j : Nat} {p : α}, (∀ r ∈ es, r.length = sz) → es.flatten[j]? = some p → ∃ i r k, es[i]? = some r ∧ r[k]? = some p ∧ j = i * sz + k := by
  intro es
  induction es with
  | nil => intro j p _ h; simp at h
  | cons r es ih =>
    intro j p hl h
    have hr := hl r (by simp)
    rw [List.flatten_cons] at h
    by_cases hj : j < r.length
    · rw [List.getElem?_append_left hj] at h
      exact ⟨0, r, j, rfl, h, by simp⟩
    · rw [List.getElem?_append_right (by omega)] at h
      obtain ⟨i, r', k, h1, h2, h3⟩ := ih (fun r hr => hl r (by simp [hr])) h
      exact ⟨i + 1, r', k, by simpa using h1, h2, by rw [Nat.add_mul]; omega⟩
theorem flat_len {α : Type} {sz : Nat} : ∀ {es : List (List α)}, (∀ r ∈ es, r.length = sz) → es.flatten.length = es.length * sz := by
  intro es
  induction es with
  | nil => intro _; simp
  | cons r es ih =>
    intro hl
    rw [List.flatten_cons, List.length_append, ih (fun r hr => hl r (by simp [hr])), hl r (by simp), List.length_cons, Nat.add_mul]
    omega
theorem flat_at {α : Type} {sz : Nat} : ∀ {es : List (List α)} {i k : Nat} {r : List α} {p : α}, (∀ r ∈ es, r.length = sz) → es[i]? = some r → r[k]? = some p → es.flatten[i * sz + k]? = some p := by
  intro es
  induction es with
  | nil => intro i k r p _ h; simp at h
  | cons r0 es ih =>
    intro i k r p hl h h'
    have hr := hl r0 (by simp)
    rw [List.flatten_cons]
    cases i with
    | zero =>
      simp at h
      subst h
      have := (List.getElem?_eq_some_iff.1 h').1
      rw [List.getElem?_append_left (by omega)]
      simpa using h'
    | succ i =>
      rw [List.getElem?_append_right (by rw [Nat.add_mul]; omega)]
      have := ih (fun r hr => hl r (by simp [hr])) (by simpa using h) h'
      rwa [show (i + 1) * sz + k - r0.length = i * sz + k by rw [Nat.add_mul]; omega]

section
variable {fp : Nat → Nat → Prop} {site : Nat → Option Nat} {w : World} {v : Value}
variable {P : Program} {ρ : Operand → Value} {g : Opd → AV} {o : Oper} {xs : List Opd} {c : Prop} {r : AV}

theorem ps_s2ap {n : Nat} (H : OpdR fp site w ρ g) (h : okP P (.s2ap n) xs o.op = true) (hp : pval (.s2ap n) (xs.map g) = some (c, r)) (hc : c) : PS P fp site w ρ o r := by
  cases hop : o.op <;> simp only [okP, hop, Bool.false_eq_true] at h
  rename_i t y
  simp only [Bool.and_eq_true] at h
  obtain ⟨hf, h⟩ := h
  obtain ⟨x, rfl, h1⟩ := okXs1 h
  have H1 := H _ _ h1
  split at hf
  · rename_i n' e hu
    simp only [beq_iff_eq] at hf
    subst hf
    simp only [List.map, pval, pvS2ap] at hp
    split at hp
    · rename_i xx p len sz e
      simp only [List.cons.injEq, and_true] at e
      rw [e] at H1
      simp only [Option.some.injEq, Prod.mk.injEq] at hp
      obtain ⟨rfl, rfl⟩ := hp
      obtain ⟨b, cap, hs, e1, _, _⟩ := H1.sr
      have hn : ¬ len < n := by omega
      exact ⟨.pointer (some ⟨b, p, none⟩), by simp [execOp, hop, Instr.arrayAt, e1, run_underlying hu, hn], V2.mkptr hs⟩
    · rename_i sz es e
      simp only [List.cons.injEq, and_true] at e
      rw [e] at H1
      simp only [Option.some.injEq, Prod.mk.injEq] at hp
      obtain ⟨rfl, rfl⟩ := hp
      obtain ⟨A, cap, e1, _, _, _, hne⟩ := H1.pv.slInv
      obtain ⟨b, oo, rfl, hlens, hcell⟩ := hne (by intro hh; subst hh; simp at hc)
      have hn : ¬ es.length < n := by omega
      refine ⟨.pointer (some ⟨b, oo, none⟩), by simp [execOp, hop, Instr.arrayAt, e1, run_underlying hu, hn], V2.mkrp fun j p hj => ?_⟩
      obtain ⟨i, rr, k, g1, g2, rfl⟩ := flat_get hlens hj
      have := hcell _ _ _ _ g1 g2
      rwa [Nat.add_assoc] at this
    · cases hp
  · cases hf

theorem ps_len {arr : Option Nat} (H : OpdR fp site w ρ g) (h : okP P (.len arr) xs o.op = true) (hp : pval (.len arr) (xs.map g) = some (c, r)) (hc : c) : PS P fp site w ρ o r := by
  cases hop : o.op <;> simp only [okP, hop, Bool.false_eq_true] at h
  rename_i cl
  simp only [Bool.and_eq_true] at h
  obtain ⟨hf, h⟩ := h
  split at hf
  · rename_i hcal
    split at hf
    · rename_i t ht
      split at hf
      · rename_i arr' e he
        simp only [decide_eq_true_eq] at hf
        subst hf
        have hat : cl.argTypes = #[t] := by cases hh : cl.argTypes with | mk l => simp only [hh] at ht; rw [ht]
        have key : ∀ y x, cl.args.toList = [y] → okX x y = true → xs = [x] → PS P fp site w ρ o r := by
          intro y x hy hx hxs
          subst hxs
          have hargs : cl.args = #[y] := by cases hh : cl.args with | mk l => simp only [hh] at hy; rw [hy]
          have H1 := H _ _ hx
          have hrun : ∀ _v : Value, (execOp ρ o).run P w = ((Builtin.len_ #[t] o.type #[ρ y]).run P w).andThen (fun v w => .ok (.value v) w) := by
            intro v
            simp [execOp, hop, resolve, invoke, builtin, hcal, hargs, hat]
          simp only [List.map, pval, pvLen] at hp
          split at hp
          · rename_i sz es e
            simp only [List.cons.injEq, and_true] at e
            rw [e] at H1
            split at hp
            · rename_i hn
              subst hn
              simp only [Option.some.injEq, Prod.mk.injEq] at hp
              obtain ⟨_, rfl⟩ := hp
              obtain ⟨A, cap, e1, _⟩ := H1.pv.slInv
              unfold arrOf at he
              split at he <;> simp at he
              rename_i hu
              exact ⟨.int .i64 es.length, by rw [hrun .nilIface, e1]; simp [Builtin.len_, run_underlying hu, goInt], V2.mkpv (.int _ _)⟩
            · cases hp
          · rename_i xx p n sz e
            simp only [List.cons.injEq, and_true] at e
            rw [e] at H1
            split at hp
            · rename_i hn
              subst hn
              simp only [Option.some.injEq, Prod.mk.injEq] at hp
              obtain ⟨_, rfl⟩ := hp
              obtain ⟨b, cap, _, e1, _⟩ := H1.sr
              unfold arrOf at he
              split at he <;> simp at he
              rename_i hu
              exact ⟨.int .i64 n, by rw [hrun .nilIface, e1]; simp [Builtin.len_, run_underlying hu, goInt], V2.mkpv (.int _ _)⟩
            · cases hp
          · split at hp
            · rename_i n
              simp only [Option.some.injEq, Prod.mk.injEq] at hp
              obtain ⟨_, rfl⟩ := hp
              unfold arrOf at he
              split at he <;> simp at he
              rename_i n' _ hu
              obtain ⟨rfl, rfl⟩ := he
              refine ⟨.int .i64 n', ?_, V2.mkpv (.int _ _)⟩
              rw [hrun .nilIface]
              cases ρ y <;> simp [Builtin.len_, run_underlying hu, goInt]
            · cases hp
          · cases hp
        cases hl : cl.args.toList with
        | nil =>
          rw [hl] at h
          have := okXs_nil h
          subst this
          simp [pval, pvLen] at hp
        | cons y ys =>
          rw [hl] at h
          obtain ⟨x, rest, rfl, g1, g2⟩ := okXs_cons h
          cases ys with
          | nil =>
            have := okXs_nil g2
            subst this
            exact key y x hl g1 rfl
          | cons y' ys' =>
            obtain ⟨x', rest', rfl, _, _⟩ := okXs_cons g2
            simp [pval, pvLen] at hp
      · cases hf
    · cases hf
  · cases hf

theorem ps_mm {isMax : Bool} (H : OpdR fp site w ρ g) (h : okP P (.mm isMax) xs o.op = true) (hp : pval (.mm isMax) (xs.map g) = some (c, r)) (hc : c) : PS P fp site w ρ o r := by
  cases hop : o.op <;> simp only [okP, hop, Bool.false_eq_true] at h
  rename_i cl
  simp only [Bool.and_eq_true] at h
  obtain ⟨hf, h⟩ := h
  cases hl : cl.args.toList with
  | nil => rw [hl] at h; have := okXs_nil h; subst this; simp [pval, pvMm] at hp
  | cons y ys =>
    rw [hl] at h
    obtain ⟨x, rest, rfl, g1, g2⟩ := okXs_cons h
    cases ys with
    | nil => have := okXs_nil g2; subst this; simp [pval, pvMm] at hp
    | cons y' ys' =>
      obtain ⟨x', rest', rfl, g3, g4⟩ := okXs_cons g2
      cases ys' with
      | cons y'' ys'' =>
        obtain ⟨x'', rest'', rfl, _, _⟩ := okXs_cons g4
        simp [pval, pvMm] at hp
      | nil =>
        have := okXs_nil g4
        subst this
        have hargs : cl.args = #[y, y'] := by cases hh : cl.args with | mk l => simp only [hh] at hl; rw [hl]
        have H1 := H _ _ g1
        have H2 := H _ _ g3
        simp only [List.map, pval, pvMm] at hp
        split at hp
        · rename_i k a k' b e
          simp only [List.cons.injEq, and_true] at e
          rw [e.1] at H1
          rw [e.2] at H2
          split at hp
          · simp only [Option.some.injEq, Prod.mk.injEq] at hp
            obtain ⟨_, rfl⟩ := hp
            split at hf
            · rename_i hcal
              subst hf
              exact ⟨.int k (if b > a then b else a), by simp [execOp, hop, resolve, invoke, builtin, hcal, hargs, Builtin.max_, Builtin.max2, H1.int, H2.int], V2.mkpv (.int _ _)⟩
            · rename_i hcal
              simp only [Bool.not_eq_true'] at hf
              subst hf
              exact ⟨.int k (if b < a then b else a), by simp [execOp, hop, resolve, invoke, builtin, hcal, hargs, Builtin.min_, Builtin.min2, H1.int, H2.int], V2.mkpv (.int _ _)⟩
            · cases hf
          · cases hp
        · cases hp

theorem ps_ext {i : Nat} (H : OpdR fp site w ρ g) (h : okP P (.ext i) xs o.op = true) (hp : pval (.ext i) (xs.map g) = some (c, r)) (hc : c) : PS P fp site w ρ o r := by
  cases hop : o.op <;> simp only [okP, hop, Bool.false_eq_true] at h
  simp only [Bool.and_eq_true, beq_iff_eq] at h
  obtain ⟨rfl, h⟩ := h
  obtain ⟨x, rfl, h1⟩ := okXs1 h
  have H1 := H _ _ h1
  simp only [List.map, pval, pvExt] at hp
  split at hp
  · rename_i l e
    simp only [List.cons.injEq, and_true] at e
    rw [e] at H1
    simp only [Option.map_eq_some_iff, Prod.mk.injEq] at hp
    obtain ⟨r', hr, _, rfl⟩ := hp
    obtain ⟨⟨vs, e1, h2, h3⟩, _⟩ := H1
    have hi : i < vs.size := by rw [h2]; exact (List.getElem?_eq_some_iff.1 hr).1
    have := h3 i r' vs[i] hr (Array.getElem?_eq_getElem hi)
    have e0 : at0 (none : Option (Nat × Nat)) = fun _ => none := by funext j; simp [at0]
    rw [e0] at this
    refine ⟨vs[i], by simp [execOp, hop, Instr.extract, e1, Array.getElem?_eq_getElem hi], ?_⟩
    cases r' <;> first | exact this | exact this.1.elim
  · cases hp

theorem ps_nilc (H : OpdR fp site w ρ g) (h : okP P .nilc xs o.op = true) (hp : pval .nilc (xs.map g) = some (c, r)) (hc : c) : PS P fp site w ρ o r := by
  cases hop : o.op <;> simp only [okP, hop, Bool.false_eq_true] at h
  obtain ⟨x, rfl, h1⟩ := okXs1 h
  have H1 := H _ _ h1
  simp only [List.map, pval, pvNilc] at hp
  split at hp
  · rename_i xx p e
    simp only [List.cons.injEq, and_true] at e
    rw [e] at H1
    simp only [Option.some.injEq, Prod.mk.injEq] at hp
    obtain ⟨_, rfl⟩ := hp
    obtain ⟨b, hs, e1⟩ := H1.ptr
    exact ⟨_, by simp [execOp, hop, e1], V2.mkptr hs⟩
  · rename_i l e
    simp only [List.cons.injEq, and_true] at e
    rw [e] at H1
    simp only [Option.some.injEq, Prod.mk.injEq] at hp
    obtain ⟨_, rfl⟩ := hp
    obtain ⟨b, oo, e1, hl⟩ := H1.rp
    exact ⟨_, by simp [execOp, hop, e1], V2.mkrp hl⟩
  · cases hp

theorem pSound {po : POp} (H : OpdR fp site w ρ g) (h : okP P po xs o.op = true) (hp : pval po (xs.map g) = some (c, r)) (hc : c) : PS P fp site w ρ o r := by
  cases po with
  | id => exact ps_id H h hp hc
  | pick => exact ps_pick H h hp hc
  | bin op => exact ps_bin H h hp hc
  | beq n => exact ps_beq H h hp hc
  | peq n => exact ps_peq H h hp hc
  | aeq neg n k => exact ps_aeq H h hp hc
  | un op => exact ps_un H h hp hc
  | conv k => exact ps_conv H h hp hc
  | field off n => exact ps_field H h hp hc
  | index l s n => exact ps_index H h hp hc
  | fieldAddr off => exact ps_fieldAddr H h hp hc
  | indexAddr a s => exact ps_indexAddr H h hp hc
  | slice a s lo hi => exact ps_slice H h hp hc
  | s2ap n => exact ps_s2ap H h hp hc
  | len a => exact ps_len H h hp hc
  | mm m => exact ps_mm H h hp hc
  | ext i => exact ps_ext H h hp hc
  | nilc => exact ps_nilc H h hp hc
end
end Go.Abs
