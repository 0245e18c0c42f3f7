/- wire.Get: its contract: what fits is a message, what gives up is an error. No condition. -/
import Derived.Test.YtekpgcohlpkmnaaWireD
set_option linter.unusedVariables false
set_option linter.unusedSimpArgs false
namespace Go.Proofs.Ytekpgcohlpkmnaa
open Go.Abs Go.RowKit Go.Ours

theorem two_vals {vals : Array Value} (h : vals.size = 2) : ∃ v0 v1, vals = #[v0, v1] := by
  obtain ⟨l⟩ := vals
  match l, h with
  | [a, b], _ => exact ⟨a, b, rfl⟩
theorem adef_idle (c0 c1 : List PV) : ADef Try.prog 29 [.ptr 1000 0, .ptr 1001 0] [.pagg c0, .pagg c1] .returning .returning [.pagg c0, .pagg c1] := by
  intro X G w vals hsz hw0 hXd hx hR
  obtain ⟨v0, v1, rfl⟩ := two_vals hsz
  refine (catch_idle v0 v1 w).mono fun e u' w' h => ?_
  obtain ⟨rfl, rfl, rfl⟩ := h
  refine ⟨_, _, rfl, rfl, hR.keepm hXd (lent' := [.pagg c0, .pagg c1]) (fun k c hk => ?_) (by simp), fun x h1 h2 => ?_, fun x b h1 h2 => ?_⟩
  · match k, hk with
    | 0, hk => cases hk; rfl
    | 1, hk => cases hk; rfl
  · simp only
    rw [if_pos ⟨h2, h1⟩]
  · simp only at h2
    rw [if_neg (by omega)] at h2
    cases h2
set_option maxRecDepth 20000 in
theorem adef_pan (n : Int) (c0 c1 : List PV) (h0 : c0.length = 39) (h1 : c1.length = 1) : ADef Try.prog 29 [.ptr 1000 0, .ptr 1001 0] [.pagg c0, .pagg c1] (.panicking (chE n)) (.panicking [{ v := .iface 57 (.int .i64 n), recovered := true }]) [.pagg zMs, .pagg [.int .i64 n]] := by
  intro X G w vals hsz hw0 hXd hx hR
  obtain ⟨v0, v1, rfl⟩ := two_vals hsz
  refine (catch_pan n v0 v1 w (fun w' => ∃ G', Rel X G' (soutOf .undef [.pagg zMs, .pagg [.int .i64 n]] []) ⟨#[Go.undef], []⟩ w' ∧ (∀ x, x < 2000 → 1000 ≤ x → G'.site x = G.site x) ∧ ∀ x b, 2000 ≤ x → G'.site x = some b → w.heap.size ≤ b) ?_).mono fun e u' w' h => ?_
  rotate_left
  · obtain ⟨rfl, rfl, G', a1, a2, a3⟩ := h
    exact ⟨_, G', rfl, rfl, a1, a2, a3⟩
  have hR1 : Rel X G (sinOf [.ptr 1000 0, .ptr 1001 0, .pv (.int .i64 n)] [.pagg c0, .pagg c1]) ⟨#[v0, v1, .int .i64 n, .bool true, .tuple #[.int .i64 n, .bool true], .iface 57 (.int .i64 n), .tuple #[.int .i64 n, .bool true], .int .i64 n, .bool true, .bool true, undef, undef], []⟩ w := by
    refine hR.same G.own (fun _ _ _ h => ⟨_, _, h⟩) hR.ownI (fun t => ?_) (fun x => hR.mem x) hXd.symm
    match t with
    | 0 => exact hR.tmp 0
    | 1 => exact hR.tmp 1
    | 2 => exact ⟨⟨.int _ _, (hR.tmp 2).1⟩, (hR.tmp 2).2⟩
    | t + 3 => exact ⟨(hR.tmp (t + 3)).1, (hR.tmp (t + 3)).2⟩
  refine wp_mono (codeSound hx (G0 := G) (N := 12) (Q := fun e s => e = .normal ∧ s (.m 1000) = .pagg zMs ∧ s (.m 1001) = .pagg [.int .i64 n]) okGetX ?_ hR1 rfl fun _ _ => rfl) fun e a' w' hl => ?_
  · rw [sin_mk]
    refine kk_start ?_
    simp only [argT, irGetX]
    simp [h0, h1]
    refine ⟨rfl, ?_⟩
    match c1, h1 with
    | [x], _ => rfl
  · obtain ⟨_, s', G', ⟨rfl, e1, e2⟩, hR', hN', hG'⟩ := hl
    refine ⟨rfl, hR'.df.trans hXd, _, hR'.keepm hXd (lent' := [.pagg zMs, .pagg [.int .i64 n]]) (fun k c hk => ?_) (by simp), fun x h1 h2 => ?_, fun x b h1 h2 => ?_⟩
    · match k, hk with
      | 0, hk => cases hk; rw [e1]; rfl
      | 1, hk => cases hk; rw [e2]; rfl
    · simp only
      rw [if_pos ⟨h2, h1⟩, hG' x h2]
    · simp only at h2
      rw [if_neg (by omega)] at h2
      cases h2
theorem pt_of {X : Ctx} {G : Gh} {s : S} {a : Act} {w : World} (hR : Rel X G s a w) {t x : Nat} (h : s (.t t) = .ptr x 0) : ∃ b, G.site x = some b ∧ a.tmps.getD t undef = .pointer (some ⟨b, 0, none⟩) := by
  have hv := hR.tmp t
  rw [h] at hv
  exact hv.1.1
theorem results_eq {tmps tmps' : Array Value} (h2 : tmps.getD 2 undef = tmps'.getD 2 undef) (h3 : tmps.getD 3 undef = tmps'.getD 3 undef) : results Try.f15 tmps = results Try.f15 tmps' := by
  unfold results
  have e : (Try.f15).results = #[.cell 2 27, .cell 3 33] := rfl
  rw [e]
  simp [-Array.getD_eq_getD_getElem?, h2, h3]
theorem retOk_get {s : S} {m : List PV} {e : Int} (hm : m.length = 39) (h2 : s (.t 2) = .ptr 2 0) (h3 : s (.t 3) = .ptr 3 0) (m2 : s (.m 2) = .pagg m) (m3 : s (.m 3) = .pagg [.int .i64 e]) :
    RetOK [.cell 2 (some (39, true)), .cell 3 none] [] s (.tup [.pagg m, .pv (.int .i64 e)]) [] [] := by
  refine ⟨(0 = 0 ∧ m.length = 39) ∧ True ∧ True, .tup [.pagg m, .pv (.int .i64 e)], ?_, ⟨⟨rfl, hm⟩, trivial, trivial⟩, trivial, rfl, rfl, rfl⟩
  simp [resA, resvs, resv, h2, h3, m2, m3, loadA, getc]
/-- The frame's state ahead of the deferred call. -/
def gS (b : List Nat) : S := mk [(0, .pv (.sl 1 (krows .u8 b))), (2, .ptr 2 0), (3, .ptr 3 0)] [(2, .pagg zMs), (3, .pagg [.int .i64 0])]
theorem getEnd {X : Ctx} {G0 G G' : Gh} {s : S} {l : List Nat} {a : Act} {w0 w w' : World} {tmps : Array Value} {q : List PV} {e : Int} (hw0 : X.w0 = w0) (hXd : X.ds = []) (hq : q.length = 39)
    (hR : Rel X G (gS l) a w) (hN : a.tmps.size = 13) (hG : ∀ x, 1000 ≤ x → G.site x = G0.site x)
    (hR' : Rel (cCtx X G w [2, 3] []) G' s ⟨tmps, []⟩ w') (hs : ∀ x, 1000 ≤ x → G'.site x = (cGh G [2, 3]).site x)
    (h2 : s (.t 2) = .ptr 1000 0) (h3 : s (.t 3) = .ptr 1001 0) (m2 : s (.m 1000) = .pagg q) (m3 : s (.m 1001) = .pagg [.int .i64 e]) :
    ∃ v, (results Try.f15 tmps).run Try.prog w' = .ok v w' ∧ ∃ v_1 G', Ending.returned v = .returned v_1 ∧ Rel X G' (soutOf (.tup [.pagg q, .pv (.int .i64 e)]) [] []) ⟨#[v_1], []⟩ w' ∧ (∀ x, x < 2000 → 1000 ≤ x → G'.site x = G0.site x) ∧ ∀ x b, 2000 ≤ x → G'.site x = some b → w0.heap.size ≤ b := by
  have hk := hR'.keepm rfl (lent' := [.pagg q, .pagg [.int .i64 e]]) (fun k c hk => by
    match k, hk with
    | 0, hk => cases hk; rw [m2]; rfl
    | 1, hk => cases hk; rw [m3]; rfl) (by simp)
  obtain ⟨b2, s2, e2⟩ := pt_of hR (t := 2) (x := 2) rfl
  obtain ⟨b3, s3, e3⟩ := pt_of hR (t := 3) (x := 3) rfl
  obtain ⟨c2, t2, f2⟩ := pt_of hR' h2
  obtain ⟨c3, t3, f3⟩ := pt_of hR' h3
  have q2 : c2 = b2 := by
    rw [hs 1000 (by omega)] at t2
    have : G.site 2 = some c2 := t2
    rw [s2] at this
    cases this
    rfl
  have q3 : c3 = b3 := by
    rw [hs 1001 (by omega)] at t3
    have : G.site 3 = some c3 := t3
    rw [s3] at this
    cases this
    rfl
  have hres := results_eq (tmps := tmps) (tmps' := a.tmps) (by rw [e2, ← q2]; exact f2) (by rw [e3, ← q3]; exact f3)
  have hout := call_out hR (d := 12) (by rw [hN]; omega) (lent := [2, 3]) (news := []) (frz := []) (by decide) (fun y hy => by cases hy) (fun x hx => by cases hx) (fun y hy => by
      simp only [List.mem_cons, List.not_mem_nil, or_false] at hy
      rcases hy with rfl | rfl
      · exact ⟨_, s2⟩
      · exact ⟨_, s3⟩) (r := .undef) (lent' := [.pagg q, .pagg [.int .i64 e]]) (newc := []) rfl rfl (fun a ha => Or.inl (by
      simp only [List.mem_cons, List.not_mem_nil, or_false] at ha
      rcases ha with rfl | rfl <;> trivial)) (fun a ha => by cases ha) (Or.inl rfl) hk (fun x h1 h2 => by
      simp only
      rw [if_pos ⟨h2, h1⟩, hs x h2]) (fun x b h1 h2 => by
      simp only at h2
      rw [if_neg (by omega)] at h2
      cases h2) (by decide)
  have hun := hout.unput rfl
  have fin := retFin (P := Try.prog) (G := G0) (w := w0) (fn := Try.f15) (rs := [.cell 2 (some (39, true)), .cell 3 none]) (ns := []) (r := .tup [.pagg q, .pv (.int .i64 e)]) (lent' := []) (newc := []) (by kernel_rfl) (by decide) (by decide) (fun x hx => by cases hx) (by decide) hw0 hXd hun (fun x hx => by
      simp only [rSite]
      rw [idx_none (by simp)]
      exact hG x hx) (retOk_get hq rfl rfl rfl rfl)
  rw [hres]
  exact fin.2
theorem get_c (b : List Nat) (m : List PV) (e : Int) (hl : b.length ≤ 10000000000) (hm : m.length = 39)
    (h : (65504 < b.length ∧ m = zMs ∧ e = 4) ∨ (b.length ≤ 65504 ∧ ((e = 0 ∧ ACall Try.prog 31 [.agg [.ptr 1000 0]] [.pagg (rdP b 0)] (.pagg m) [.pagg (rdP b b.length)] []) ∨ (m = zMs ∧ APan Try.prog 31 [.agg [.ptr 1000 0]] [.pagg (rdP b 0)] (chE e))))) :
    ACall Try.prog 15 [.pv (.sl 1 (krows .u8 b))] [] (.tup [.pagg m, .pv (.int .i64 e)]) [] [] := by
  intro X G w vals hsz hw0 hXd hx hR
  refine calls_of_wp_defers (fn := Try.f15) rfl get_body ?_
  have hN0 : (vals ++ Array.replicate ((Try.f15).ntmps - vals.size) undef).size = 13 := by
    have e0 : (Try.f15).ntmps = 13 := rfl
    have e1 : vals.size = 1 := hsz
    simp [e0, e1]
  have hR0 := hR.args (a := ⟨vals, []⟩) ((Try.f15).ntmps - vals.size)
  generalize vals ++ Array.replicate ((Try.f15).ntmps - vals.size) undef = tmps0 at *
  -- the two ways behind the first test
  have hA : iwp Try.prog irGetA (sinOf [.pv (.sl 1 (krows .u8 b))] []) (KK Try.prog [] fun ex s => ex = .normal ∧ iwp Try.prog irGetB s (KK Try.prog [] fun ex s => (ex = .ret ∧ 65504 < b.length ∧ RetOK [.cell 2 (some (39, true)), .cell 3 none] [] s (.tup [.pagg zMs, .pv (.int .i64 4)]) [] []) ∨ (ex = .normal ∧ b.length ≤ 65504 ∧ s = gS b))) := by
    rw [sin_mk]
    simp only [argT, irGetA]
    simp
    simp only [irGetB]
    by_cases hb : 65504 < b.length
    · have hb' : (65504 : Int) < (b.length : Int) := by omega
      simp [krows_length, hb, hb']
      exact retOk_get rfl rfl rfl rfl rfl
    · have hb' : ¬ (65504 : Int) < (b.length : Int) := by omega
      simp [krows_length, hb, hb']
      exact ⟨by omega, rfl⟩
  refine wp_seq (wp_mono (codeSound hx (G0 := G) okGetA hA hR0 hN0 fun _ _ => rfl) fun ex a1 w1 hl1 => ?_)
  obtain ⟨_, s1, G1, ⟨rfl, hB⟩, hR1, hN1, hG1⟩ := hl1
  refine wp_seq (wp_mono (codeSound hx (G0 := G) okGetB hB hR1 hN1 hG1) fun ex a2 w2 hl2 => ?_)
  obtain ⟨_, s2, G2, hcase, hR2, hN2, hG2⟩ := hl2
  rcases hcase with ⟨rfl, hbig, hret⟩ | ⟨rfl, hsmall, rfl⟩
  · -- too long
    obtain ⟨rfl, rfl⟩ : m = zMs ∧ e = 4 := by
      rcases h with ⟨_, h⟩ | ⟨h, _⟩
      · exact h
      · omega
    have fin := retFin (P := Try.prog) (G := G) (fn := Try.f15) (rs := [.cell 2 (some (39, true)), .cell 3 none]) (ns := []) (r := .tup [.pagg zMs, .pv (.int .i64 4)]) (lent' := []) (newc := []) (by kernel_rfl) (by decide) (by decide) (fun x hx => by cases hx) (by decide) hw0 hXd.1 hR2 hG2 hret
    show Leaves Try.prog _ a2.tmps _ a2.defers .returning w2
    rw [fin.1]
    exact fin.2
  have hm' : (e = 0 ∧ ACall Try.prog 31 [.agg [.ptr 1000 0]] [.pagg (rdP b 0)] (.pagg m) [.pagg (rdP b b.length)] []) ∨ (m = zMs ∧ APan Try.prog 31 [.agg [.ptr 1000 0]] [.pagg (rdP b 0)] (chE e)) := by
    rcases h with ⟨h, _⟩ | ⟨_, h⟩
    · omega
    · exact h
  obtain ⟨b2, st2, e2⟩ := pt_of hR2 (t := 2) (x := 2) rfl
  obtain ⟨b3, st3, e3⟩ := pt_of hR2 (t := 3) (x := 3) rfl
  refine wp_seq (getC_wp hN2 ?_)
  rw [e2, e3]
  have hdef : a2.defers = [] := hR2.df.trans hXd.1
  rw [hdef]
  generalize hfv : Value.func (.func 29) #[] #[.pointer (some ⟨b2, 0, none⟩), .pointer (some ⟨b3, 0, none⟩)] = fv
  generalize hd : ({ target := .fn (.func 29) #[.pointer (some ⟨b2, 0, none⟩), .pointer (some ⟨b3, 0, none⟩)], args := #[] } : Deferred) = d
  have hR3 : Rel X G2 (gS b) (a2.put (some 8) fv) w2 := hR2.putu rfl
  have hN3 : (a2.put (some 8) fv).tmps.size = 13 := (put_size _ _ _).trans hN2
  generalize a2.put (some 8) fv = a3 at *
  have hargs : ∃ c, argsA (gS b) [2, 3] [] ((List.range 13).map Opd.t) = some (c, [.pv (.sl 1 (krows .u8 b)), .undef, .ptr 1000 0, .ptr 1001 0, .undef, .undef, .undef, .undef, .undef, .undef, .undef, .undef, .undef]) ∧ c := ⟨_, rfl, by simp⟩
  obtain ⟨c, hargs, hc⟩ := hargs
  obtain ⟨hlen, hvals⟩ := args_in hR3 (lent := [2, 3]) (frz := []) (fun y hy => by cases hy) (xs := (List.range 13).map Opd.t) (ys := (List.range 13).map Operand.tmp) (by decide) hargs hc
  have hin := call_in hR3 (lent := [2, 3]) (frz := []) (by decide) (fun y hy => by cases hy) (vals := a3.tmps) (by rw [hN3, ← hlen]; rfl) (fun i v av hi hj => by
    have hlt : i < 13 := by rw [← hN3]; exact (Array.getElem?_eq_some_iff.1 hi).1
    have := hvals i (.tmp i) av (by simp [List.getElem?_range hlt]) hj
    have ev : a3.eval (.tmp i) = v := by
      show a3.tmps.getD i undef = v
      rw [Array.getD_eq_getD_getElem?, hi]
      rfl
    rwa [ev] at this) (fun y hy => by
    simp only [List.mem_cons, List.not_mem_nil, or_false] at hy
    rcases hy with rfl | rfl <;> trivial)
  have hx1 : GlOK Try.prog (cCtx X G2 w2 [2, 3] []) := hx.call hR3
  have hD : iwp Try.prog irGetD (sinOf [.pv (.sl 1 (krows .u8 b)), .undef, .ptr 1000 0, .ptr 1001 0, .undef, .undef, .undef, .undef, .undef, .undef, .undef, .undef, .undef] [.pagg zMs, .pagg [.int .i64 0]]) (KK Try.prog [] fun ex s => s (.t 2) = .ptr 1000 0 ∧ s (.t 3) = .ptr 1001 0 ∧ ((ex = .ret ∧ e = 0 ∧ s (.m 1000) = .pagg m ∧ s (.m 1001) = .pagg [.int .i64 0]) ∨ (ex = .panic (chE e) ∧ m = zMs ∧ s (.m 1000) = .pagg zMs ∧ s (.m 1001) = .pagg [.int .i64 0]))) := by
    have hz : zMs.length = 39 := rfl
    have cn := newr_c b hl
    rw [sin_mk]
    simp only [argT, irGetD]
    generalize rdP b 0 = r at *
    generalize rdP b b.length = r2 at *
    rcases hm' with ⟨h0, hc⟩ | ⟨rfl, hc⟩
    · generalize zMs = Z at *
      simp
      refine RegE.n ?_
      simp
      refine CallG.go cn ?_
      simp
      refine CallG.go hc ?_
      simp [hm, hz, h0]
    · generalize zMs = Z at *
      simp
      refine RegE.x ?_
      simp
      refine WX.go ?_
      simp
      refine CallG.go cn ?_
      simp
      refine WX.here hc ?_
      simp
      exact ⟨rfl, rfl, rfl, rfl⟩
  show getD.wp Try.prog _ ⟨a3.tmps, [d]⟩ w2
  refine wp_mono (codeSound (X := { cCtx X G2 w2 [2, 3] [] with ds := [d] }) (G0 := cGh G2 [2, 3]) (fun j n hj => hx1 j n hj) okGetD hD (hin.ds [d]) hN3 fun _ _ => rfl) fun ex a4 w4 hl4 => ?_
  obtain ⟨_, s4, G4, ⟨t2, t3, hcase⟩, hR4, hN4, hG4⟩ := hl4
  have hdf : a4.defers = [d] := hR4.df
  have hR5 : Rel (cCtx X G2 w2 [2, 3] []) G4 s4 ⟨a4.tmps, []⟩ w4 := hR4.ds []
  have sb2 : G4.site 1000 = some b2 := (hG4 1000 (by omega)).trans st2
  have sb3 : G4.site 1001 = some b3 := (hG4 1001 (by omega)).trans st3
  have key : ∀ {u u' : FrameMode} {c0 c1 q : List PV}, u ≠ .run → settle u' = .returning → s4 (.m 1000) = .pagg c0 → s4 (.m 1001) = .pagg c1 → q.length = 39 → ADef Try.prog 29 [.ptr 1000 0, .ptr 1001 0] [.pagg c0, .pagg c1] u u' [.pagg q, .pagg [.int .i64 e]] → q = m →
      Leaves Try.prog Try.f15 a4.tmps (fun ex w' => ∃ v G', ex = .returned v ∧ Rel X G' (soutOf (.tup [.pagg m, .pv (.int .i64 e)]) [] []) ⟨#[v], []⟩ w' ∧ (∀ x, x < 2000 → 1000 ≤ x → G'.site x = G.site x) ∧ ∀ x b, 2000 ≤ x → G'.site x = some b → w.heap.size ≤ b) a4.defers u w4 := by
    intro u u' c0 c1 q hu hset m2 m3 hq hadef hqm
    subst hqm
    rw [hdf, ← hd]
    refine leaves_cons (f := 29) (args := #[.pointer (some ⟨b2, 0, none⟩), .pointer (some ⟨b3, 0, none⟩)]) hu (by simp [go_sem]) ?_
    refine (ADef.call (X := cCtx X G2 w2 [2, 3] []) (d := 12) (lent := [1000, 1001]) (args := [.ptr 1000 0, .ptr 1001 0]) (lent' := [.pagg q, .pagg [.int .i64 e]]) hx1 hR5 (by show 12 < a4.tmps.size; omega) (by decide) (by decide) rfl (fun a ha => by
      simp only [List.mem_cons, List.not_mem_nil, or_false] at ha
      rcases ha with rfl | rfl <;> trivial) rfl (fun i v av hi hj => by
      match i, hi, hj with
      | 0, hi, hj => cases hi; cases hj; exact V2.mkptr sb2
      | 1, hi, hj => cases hi; cases hj; exact V2.mkptr sb3
      | i + 2, hi, _ => simp at hi) (fun y hy => by
      simp only [List.mem_cons, List.not_mem_nil, or_false] at hy
      rcases hy with rfl | rfl
      · rw [m2]; trivial
      · rw [m3]; trivial) (by
      show ADef _ _ _ [ren1 _ (s4 (.m 1000)), ren1 _ (s4 (.m 1001))] u u' _
      rw [m2, m3]
      exact hadef)).mono ?_
    rintro ex u2 w5 ⟨v, G5, rfl, rfl, hR6, hG6⟩
    show Leaves _ _ _ _ [] (settle u2) w5
    rw [hset]
    exact getEnd hw0 hXd.1 hq hR3 hN3 hG2 hR6 (fun x hx => (hG6 x).trans (hG4 x hx)) t2 t3 rfl rfl
  rcases hcase with ⟨rfl, rfl, m2, m3⟩ | ⟨rfl, hmz, m2, m3⟩
  · exact key (u := .returning) (by simp) rfl m2 m3 hm (adef_idle m _) rfl
  · exact key (u := .panicking (chE e)) (by simp) rfl m2 m3 rfl (adef_pan e zMs _ rfl rfl) hmz.symm
end Go.Proofs.Ytekpgcohlpkmnaa
