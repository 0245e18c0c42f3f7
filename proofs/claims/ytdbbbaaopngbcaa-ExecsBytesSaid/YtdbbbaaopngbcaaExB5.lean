/- A world got from its bytes; its digest: contracts. -/
import Derived.Test.YtdbbbaaopngbcaaExB4
import Derived.Test.YtdbbbaaopngbcaaShaN
set_option linter.unusedVariables false
set_option linter.unusedSimpArgs false
namespace Go.Proofs.Ytdbbbaaopngbcaa
open Go.Abs Go.RowKit Go.Ours

theorem zero_world : ([.int .i64 0, .int .i64 0, .int .i64 0, .int .u16 0, .int .i64 0, .int .u16 0, .bool false, .int .i64 0, .bool false, .int .i64 0, .bool false, .int .i64 0, .bool false, .int .i64 0, .bool false, .int .i64 0, .bool false, .int .i64 0, .bool false, .int .i64 0, .bool false, .int .i64 0, .bool false, .int .i64 0, .bool false, .int .i64 0, .bool false, .int .i64 0, .bool false, .int .i64 0, .bool false, .int .i64 0, .bool false, .int .i64 0, .bool false, .int .i64 0, .bool false, .int .i64 0, .int .i64 0, .int .i64 0, .int .i64 0, .bool false, .int .i64 0, .int .i64 0, .int .i64 0, .int .i64 0, .bool false, .int .i64 0, .int .i64 0, .int .i64 0, .int .i64 0, .bool false, .int .i64 0, .int .i64 0, .int .i64 0, .int .i64 0, .bool false, .int .i64 0, .int .i64 0, .int .i64 0, .int .i64 0, .bool false, .int .i64 0, .int .i64 0, .int .i64 0, .int .i64 0, .bool false, .int .i64 0] : List PV) = wP W0 := by simp [wP, W0, vwP, cellsP, clP, repsP, rpP, List.replicate]
theorem W0_len : WLen W0 := ⟨rfl, rfl⟩
theorem wq_setCells {w : Wd} (h : WLen w) (c : List Cl) : (wP w).take 6 ++ (cellsP c ++ (wP w).drop 38) = wP { w with cells := c } := by
  obtain ⟨A, h1, h2, h3⟩ := wP_split w
  rw [h1]
  have := mid_put (A := A) (B := cellsP w.cells) (C := repsP w.last) h2 (b := 32) (by rw [cellsP_len, h.cl]) (cellsP c)
  rw [show 6 + 32 = 38 from rfl] at this
  rw [this]
  exact (h3 c w.last).symm
theorem worldB_len (w : Wd) (h : WIn w) : (worldB w).length ≤ 400 := by
  have t0 := txt_le (putV w.view.1 w.view.2) (putV_len _ _) (by omega)
  have t1 := txt_le (putV w.was.1 w.was.2) (putV_len _ _) (by omega)
  have t2 := txt_le (kvB w.cells) (kvB_len w.cells h.cl h.ci) (by omega)
  have t3 := repsB_len w.last h.li
  rw [h.ll] at t3
  simp only [worldB, List.length_append, hd2, List.length_cons, List.length_nil]
  omega
theorem byte_of {n : Int} {x : Nat} (h : x ∈ hd2 n) : x < 256 := by
  simp only [hd2, List.mem_cons, List.not_mem_nil, or_false] at h
  omega
def goodW (w : Wd) : Bool := rightV w.view.1 w.view.2 && rightV w.was.1 w.was.2
theorem wget_c (w : Wd) (h : WIn w) : ACall Try.prog 20 [.pv (.sl 1 (krows .u8 (worldB w)))] [] (.tup [.pagg (wP (if goodW w then cutW w else W0)), .pv (.int .i64 (if goodW w then 0 else 1))]) [] [] := by
  refine ACall.fn (fn := Try.f20) rfl okExecsGet rfl (by simp) ?_
  simp only [argT, irExecsGet.eq_1]
  have hbl := worldB_len w h
  have zw := zero_world
  obtain ⟨b, hb⟩ : ∃ b, b = worldB w := ⟨_, rfl⟩
  rw [← hb] at hbl ⊢
  have hb2 : b = hd2 w.slot ++ (hd2 w.first ++ (txt (putV w.view.1 w.view.2) ++ (txt (putV w.was.1 w.was.2) ++ (txt (kvB w.cells) ++ repsB w.last)))) := by rw [hb]; simp [worldB]
  have a0 : b[0]? = some (uw w.slot / 256 % 256) := by rw [hb2]; rfl
  have a1 : b[1]? = some (uw w.slot % 256) := by rw [hb2]; rfl
  have a2 : b[2]? = some (uw w.first / 256 % 256) := by rw [hb2]; rfl
  have a3 : b[3]? = some (uw w.first % 256) := by rw [hb2]; rfl
  have d4 : b.drop 4 = txt (putV w.view.1 w.view.2) ++ (txt (putV w.was.1 w.was.2) ++ (txt (kvB w.cells) ++ repsB w.last)) := by rw [hb2]; rfl
  have hlen := congrArg List.length d4
  simp only [List.length_drop, List.length_append] at hlen
  have hpos := packed_pos (kvB w.cells).length
  have hpos2 : 1 ≤ (txt (kvB w.cells)).length := by rw [txt, List.length_append]; omega
  have d5 : b.drop (4 + (txt (putV w.view.1 w.view.2)).length) = txt (putV w.was.1 w.was.2) ++ (txt (kvB w.cells) ++ repsB w.last) := by rw [← List.drop_drop, d4, List.drop_left]
  have d6 : b.drop (4 + (txt (putV w.view.1 w.view.2)).length + (txt (putV w.was.1 w.was.2)).length) = txt (kvB w.cells) ++ repsB w.last := by rw [← List.drop_drop, d5, List.drop_left]
  have d7 : b.drop (4 + (txt (putV w.view.1 w.view.2)).length + (txt (putV w.was.1 w.was.2)).length + (txt (kvB w.cells)).length) = repsB w.last := by rw [← List.drop_drop, d6, List.drop_left]
  have n0 := newr_c b (by omega)
  have f0 := fixed2_c b 0 _ _ (by omega) a0 a1 (by omega) (by omega)
  have f1 := fixed2_c b 2 _ _ (by omega) a2 a3 (by omega) (by omega)
  rw [low_eq] at f0 f1
  simp only [Nat.zero_add, Nat.reduceAdd] at f0 f1
  have v0 := view_c b _ w.view.1 w.view.2 4 h.vm (by omega) (by omega) d4
  have v1 := view_c b _ w.was.1 w.was.2 _ h.wm (by omega) (by omega) d5
  have hkl := kvB_len w.cells h.cl h.ci
  have t2 := textAt_c b _ (kvB w.cells) _ 1000 (by omega) (by omega) (by omega) (by omega) d6
  have k0 := kvB_get w.cells h.cl h.ci
  have hlp := exl3 w h b (by omega) (.pagg (wP W0)) w.last 0 _ rfl (by omega) d7 (by omega)
  have e2 : (txtR (kvB w.cells)).length = (txt (kvB w.cells)).length := rfl
  rw [e2] at t2
  have dn := done0_c b b.length (by omega) rfl
  have w0 : IntKind.i64.wrap (low w.slot : Int) = (low w.slot : Int) := by unfold low; rw [wrap_i64] <;> omega
  have w1 : IntKind.i64.wrap (low w.first : Int) = (low w.first : Int) := by unfold low; rw [wrap_i64] <;> omega
  have s1 := wP_setSlot W0 (low w.slot : Nat)
  have s2 := wP_setFirst { W0 with slot := (low w.slot : Nat) } (low w.first : Nat)
  have s3 := wP_setView { W0 with slot := (low w.slot : Nat), first := (low w.first : Nat) } w.view
  have s4 := wP_setWas { W0 with slot := (low w.slot : Nat), first := (low w.first : Nat), view := w.view } w.was
  have s5 := wq_setCells (w := { W0 with slot := (low w.slot : Nat), first := (low w.first : Nat), view := w.view, was := w.was }) ⟨rfl, rfl⟩ (w.cells.map nz)
  have hm : midW w 0 = { W0 with slot := (low w.slot : Nat), first := (low w.first : Nat), view := w.view, was := w.was, cells := w.cells.map nz } := by simp [midW, cutW, lastUp]
  rw [hm] at hlp
  have z0l : (wP W0).length = 68 := wq_len W0_len
  have z1l : (wP { W0 with slot := (low w.slot : Nat) }).length = 68 := wq_len ⟨rfl, rfl⟩
  have z2l : (wP { W0 with slot := (low w.slot : Nat), first := (low w.first : Nat) }).length = 68 := wq_len ⟨rfl, rfl⟩
  have z3l : (wP { W0 with slot := (low w.slot : Nat), first := (low w.first : Nat), view := w.view }).length = 68 := wq_len ⟨rfl, rfl⟩
  have z4l : (wP { W0 with slot := (low w.slot : Nat), first := (low w.first : Nat), view := w.view, was := w.was }).length = 68 := wq_len ⟨rfl, rfl⟩
  have zcl : (wP (cutW w)).length = 68 := wq_len ⟨by simp [cutW, h.cl], by simp [cutW, h.ll]⟩
  have hcl : (cellsP (w.cells.map nz)).length = 32 := by rw [cellsP_len, List.length_map, h.cl]
  have hvw : (w.view.1, w.view.2) = w.view := rfl
  have hww : (w.was.1, w.was.2) = w.was := rfl
  rw [hvw] at v0
  rw [hww] at v1
  unfold goodW
  generalize wP { W0 with slot := (low w.slot : Nat), first := (low w.first : Nat), view := w.view, was := w.was, cells := w.cells.map nz } = z5 at *
  generalize wP { W0 with slot := (low w.slot : Nat), first := (low w.first : Nat), view := w.view, was := w.was } = z4 at *
  generalize wP { W0 with slot := (low w.slot : Nat), first := (low w.first : Nat), view := w.view } = z3 at *
  generalize wP { W0 with slot := (low w.slot : Nat), first := (low w.first : Nat) } = z2 at *
  generalize wP { W0 with slot := (low w.slot : Nat) } = z1 at *
  generalize cellsP (w.cells.map nz) = pc at *
  generalize 4 + (txt (putV w.view.1 w.view.2)).length + (txt (putV w.was.1 w.was.2)).length + (txt (kvB w.cells)).length = k7 at *
  generalize 4 + (txt (putV w.view.1 w.view.2)).length + (txt (putV w.was.1 w.was.2)).length = k6 at *
  generalize 4 + (txt (putV w.view.1 w.view.2)).length = k5 at *
  generalize kvB w.cells = kb at *
  generalize rdP b b.length = r9 at *
  generalize rdP b k7 = r7 at *
  generalize rdP b k6 = r6 at *
  generalize rdP b k5 = r5 at *
  generalize rdP b 4 = r4 at *
  generalize rdP b 2 = r2 at *
  generalize rdP b 0 = r0 at *
  generalize low w.slot = ls at *
  generalize low w.first = lf at *
  cases g0 : rightV w.view.1 w.view.2
  · rw [g0] at v0
    simp only [Bool.false_and, if_false, Bool.false_eq_true] at v0 ⊢
    simp only [vwP] at v0 s3 s4
    generalize wP W0 = z0 at *
    rw [zw]
    simp
    refine CallG.go n0 ?_
    simp
    refine LoopW.go irExecsGet_L1.eq_1 (by simp) ?_
    simp
    refine CallG.go f0 ?_
    simp [w0, z0l, s1]
    refine LoopW.go irExecsGet_L1.eq_1 (by simp) ?_
    simp
    refine CallG.go f1 ?_
    simp [w1, z1l, s2]
    refine LoopW.go irExecsGet_L1.eq_1 (by simp) ?_
    simp
    refine LoopW.go irExecsGet_L2.eq_1 (by simp) ?_
    rw [zw]
    simp
    refine CallG.go v0 ?_
    simp [z0l]
  · rw [g0] at v0
    simp only [Bool.true_and, if_true] at v0 ⊢
    cases g1 : rightV w.was.1 w.was.2
    · rw [g1] at v1
      simp only [if_false, Bool.false_eq_true] at v1 ⊢
      simp only [vwP] at v0 v1 s3 s4
      simp only [List.cons_append, List.nil_append] at s3 s4
      generalize wP W0 = z0 at *
      rw [zw]
      simp
      refine CallG.go n0 ?_
      simp
      refine LoopW.go irExecsGet_L1.eq_1 (by simp) ?_
      simp
      refine CallG.go f0 ?_
      simp [w0, z0l, s1]
      refine LoopW.go irExecsGet_L1.eq_1 (by simp) ?_
      simp
      refine CallG.go f1 ?_
      simp [w1, z1l, s2]
      refine LoopW.go irExecsGet_L1.eq_1 (by simp) ?_
      simp
      refine LoopW.go irExecsGet_L2.eq_1 (by simp) ?_
      simp
      refine CallG.go v0 ?_
      simp [z2l, s3]
      refine LoopW.go irExecsGet_L2.eq_1 (by simp) ?_
      rw [zw]
      simp
      refine CallG.go v1 ?_
      simp [z0l]
    · rw [g1] at v1
      simp only [if_true] at v1 ⊢
      simp only [vwP] at v0 v1 s3 s4
      simp only [List.cons_append, List.nil_append] at s3 s4
      generalize wP W0 = z0 at *
      generalize wP (cutW w) = zc at *
      rw [zw]
      simp
      refine CallG.go n0 ?_
      simp
      refine LoopW.go irExecsGet_L1.eq_1 (by simp) ?_
      simp
      refine CallG.go f0 ?_
      simp [w0, z0l, s1]
      refine LoopW.go irExecsGet_L1.eq_1 (by simp) ?_
      simp
      refine CallG.go f1 ?_
      simp [w1, z1l, s2]
      refine LoopW.go irExecsGet_L1.eq_1 (by simp) ?_
      simp
      refine LoopW.go irExecsGet_L2.eq_1 (by simp) ?_
      simp
      refine CallG.go v0 ?_
      simp [z2l, s3]
      refine LoopW.go irExecsGet_L2.eq_1 (by simp) ?_
      simp
      refine CallG.go v1 ?_
      simp [z3l, s4]
      refine LoopW.go irExecsGet_L2.eq_1 (by simp) ?_
      simp
      refine CallG.go t2 ?_
      simp
      refine CallG.go k0 ?_
      simp [z4l, hcl, s5]
      refine hlp _ fun c => ?_
      simp
      refine CallG.go dn ?_
      simp [z0l, zcl]
theorem digest_c (w : Wd) (h : WIn w) (hb : ∀ x ∈ worldB w, x < 256) : ACall Try.prog 18 [.pagg (wP w)] [] (.pagg (kns .u8 (shaF (worldB w)))) [] [] := by
  refine ACall.fn (fn := Try.f18) rfl okExecsDigest rfl (by simp) ?_
  simp only [argT, irExecsDigest.eq_1]
  have hl := wq_len h.toWLen
  have c1 := wput_c w h
  have hbl := worldB_len w h
  have c2 := sum_c (worldB w) (by omega) hb
  have hs := shaF_len (worldB w)
  generalize shaF (worldB w) = d at *
  generalize worldB w = b at *
  generalize wP w = z at *
  simp [hl]
  refine CallG.go c1 ?_
  simp
  refine CallG.go c2 ?_
  simp [kns_length, hs]
theorem refDigest_c (w : Wd) (h : WIn w) (hb : ∀ x ∈ worldB w, x < 256) : ACall Try.prog 19 [.pagg (wP w)] [] (.pagg (kns .u8 (shaF (worldB w)))) [] [] := by
  refine ACall.fn (fn := Try.f19) rfl okRef15Digest rfl (by simp) ?_
  simp only [argT, irRef15Digest.eq_1]
  have hl := wq_len h.toWLen
  have c1 := refWput_c w h
  have hbl := worldB_len w h
  have c2 := refSum_c (worldB w) (by omega) hb
  have hs := shaF_len (worldB w)
  generalize shaF (worldB w) = d at *
  generalize worldB w = b at *
  generalize wP w = z at *
  simp [hl]
  refine CallG.go c1 ?_
  simp
  refine CallG.go c2 ?_
  simp [kns_length, hs]
theorem packed_by (x : Nat) : ∀ y ∈ packed x, y < 256 := packed_bytes x
theorem txt_by {t : List Nat} (h : ∀ y ∈ t, y < 256) : ∀ y ∈ txt t, y < 256 := by
  intro y hy
  rcases List.mem_append.1 hy with hy | hy
  · exact packed_bytes _ y hy
  · exact h y hy
theorem putK_by : ∀ (l : List Cl) (k : Nat), k + l.length ≤ 256 → ∀ y ∈ putK k l, y < 256
  | [], _, _, y, hy => by simp [putK] at hy
  | x :: l, k, h, y, hy => by
    rw [List.length_cons] at h
    rw [putK] at hy
    rcases List.mem_append.1 hy with hy | hy
    · split at hy
      · rcases List.mem_cons.1 hy with rfl | hy
        · omega
        · exact packed_bytes _ y hy
      · cases hy
    · exact putK_by l (k + 1) (by omega) y hy
theorem repB_by (r : Rp) : ∀ y ∈ repB r, y < 256 := by
  intro y hy
  rcases List.mem_append.1 hy with hy | hy
  · simp only [repHead, List.mem_cons, List.not_mem_nil, or_false] at hy
    have h1 := lo_lt r.client
    have h2 := lo_lt r.seq
    have h3 := lo_lt r.slot
    have h4 : b01 r.res.1 < 256 := by cases r.res.1 <;> decide
    rcases hy with rfl | rfl | rfl | rfl <;> assumption
  · exact packed_bytes _ y hy
theorem repsB_by : ∀ (l : List Rp), ∀ y ∈ repsB l, y < 256
  | [], y, hy => by simp [repsB] at hy
  | r :: l, y, hy => by
    rcases List.mem_append.1 hy with hy | hy
    · exact txt_by (repB_by r) y hy
    · exact repsB_by l y hy
theorem worldB_by (w : Wd) (h : WIn w) : ∀ y ∈ worldB w, y < 256 := by
  intro y hy
  unfold worldB at hy
  rcases List.mem_append.1 hy with hy | hy
  · rcases List.mem_append.1 hy with hy | hy
    · rcases List.mem_append.1 hy with hy | hy
      · rcases List.mem_append.1 hy with hy | hy
        · rcases List.mem_append.1 hy with hy | hy
          · exact byte_of hy
          · exact byte_of hy
        · exact txt_by (putV_bytes _ _) y hy
      · exact txt_by (putV_bytes _ _) y hy
    · refine txt_by (fun z hz => ?_) y hy
      rcases List.mem_append.1 hz with hz | hz
      · exact packed_bytes _ z hz
      · exact putK_by w.cells 0 (by rw [h.cl]; omega) z hz
  · exact repsB_by _ y hy
end Go.Proofs.Ytdbbbaaopngbcaa
