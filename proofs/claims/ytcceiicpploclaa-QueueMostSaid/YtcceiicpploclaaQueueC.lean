/- What the laws of queues share: the example, long lists of acts, how the arguments read, a queue that is not there. -/
import Derived.Test.YtcceiicpploclaaQueueB
import Derived.Test.YtcceiicpploclaaQueueR
import Derived.Test.YtcceiicpploclaaArgTxt
set_option linter.unusedVariables false
set_option linter.unusedSimpArgs false
namespace Go.Proofs.Ytcceiicpploclaa
open Go.Abs Go.RowKit Go.Ours

/-- An act. -/
structure Act where
  kd : Int
  r : Rq
  ps : List PV
def actP (a : Act) : List PV := .int .i64 a.kd :: (rqP a.r ++ a.ps)
def arows (l : List Act) : List (List PV) := l.map actP
theorem arows_get (l : List Act) (i : Nat) : (arows l)[i]? = l[i]?.map actP := by simp [arows]
theorem arows_length (l : List Act) : (arows l).length = l.length := by simp [arows]
structure AOk (a : Act) : Prop where
  na : I64 a.r.a
  nb : I64 a.r.b
  lp : ∃ ls, LastP a.ps ls

def rq1 (s : Int) : Rq := ⟨1, s, 1, 0, 0, 0, []⟩
theorem get_c (s : Int) : ACall Try.prog 23 [.pv (.int .i64 s)] [] (.pagg (rqP (rq1 s))) [] [] := by
  refine ACall.fn (fn := Try.f23) rfl okLaw16Get rfl (by simp) ?_
  simp only [argT, irLaw16Get.eq_1]
  have e : List.replicate 4 (PV.int .i64 0) = [.int .i64 0, .int .i64 0, .int .i64 0, .int .i64 0] := rfl
  simp [rqP, rq1, e, krows]
def zlast : List PV := [.int .i64 0, .int .i64 0, .int .i64 0, .bool false, .int .i64 0, .int .i64 0, .int .i64 0, .int .i64 0, .bool false, .int .i64 0, .int .i64 0, .int .i64 0, .int .i64 0, .bool false, .int .i64 0, .int .i64 0, .int .i64 0, .int .i64 0, .bool false, .int .i64 0, .int .i64 0, .int .i64 0, .int .i64 0, .bool false, .int .i64 0, .int .i64 0, .int .i64 0, .int .i64 0, .bool false, .int .i64 0]
theorem zlast_p : LastP zlast [0, 0, 0, 0, 0, 0] := by
  refine ⟨rfl, rfl, fun c z hz => ?_⟩
  match c with
  | 0 => cases hz; rfl
  | 1 => cases hz; rfl
  | 2 => cases hz; rfl
  | 3 => cases hz; rfl
  | 4 => cases hz; rfl
  | 5 => cases hz; rfl
  | c + 6 => simp at hz
theorem i0 : I64 0 := ⟨by decide, by decide⟩
set_option maxHeartbeats 2000000 in
theorem wakes_c : ACall Try.prog 9 [] [] (.pv (.bool true)) [] [] := by
  refine ACall.fn (fn := Try.f9) rfl okLaw16Wakes rfl (by simp) ?_
  simp only [argT, irLaw16Wakes.eq_1]
  have n0 := qnew_c
  have g1 := get_c 1
  have g2 := get_c 3
  have g3 := get_c 2
  have a1 := add_c [] [] QI.new (rq1 1) i0 i0
  have q1 := QI.new.add (r := rq1 1) i0 i0
  have m1 : addM [] [] (rq1 1) = [(1, 1)] := by decide
  have e1 : addE [] (rq1 1) = 0 := by decide
  have l1 : addL [] (rq1 1) = [rq1 1] := by simp [addL, e1]
  rw [l1, m1] at q1
  rw [e1, l1, m1] at a1
  have a2 := add_c [rq1 1] [(1, 1)] q1 (rq1 3) i0 i0
  have q2 := q1.add (r := rq1 3) i0 i0
  have m2 : addM [(1, 1)] [rq1 1] (rq1 3) = [(1, 1), (1, 3)] := by decide
  have e2 : addE [rq1 1] (rq1 3) = 0 := by decide
  have l2 : addL [rq1 1] (rq1 3) = [rq1 1, rq1 3] := by simp [addL, e2]
  rw [l2, m2] at q2
  rw [e2, l2, m2] at a2
  have a3 := add_c [rq1 1, rq1 3] [(1, 1), (1, 3)] q2 (rq1 2) i0 i0
  have q3 := q2.add (r := rq1 2) i0 i0
  have m3 : addM [(1, 1), (1, 3)] [rq1 1, rq1 3] (rq1 2) = [(1, 1), (1, 3), (1, 2)] := by decide
  have e3 : addE [rq1 1, rq1 3] (rq1 2) = 0 := by decide
  have l3 : addL [rq1 1, rq1 3] (rq1 2) = [rq1 1, rq1 3, rq1 2] := by simp [addL, e3]
  rw [l3, m3] at q3
  rw [e3, l3, m3] at a3
  have b := batch_c _ _ q3 zlast _ zlast_p
  have eb : batchQ [rq1 1, rq1 3, rq1 2] [0, 0, 0, 0, 0, 0] = [rq1 1, rq1 3] := by rfl
  rw [eb] at b
  have ln := len_c [rq1 1, rq1 3, rq1 2] [(1, 1), (1, 3), (1, 2)]
  generalize ids [] = i0 at *
  simp only [qcont, qmap] at n0 a1 a2 a3 b ln
  generalize ids [] = j0 at *
  generalize ids [(1, 1)] = j1 at *
  generalize ids [(1, 1), (1, 3)] = j2 at *
  generalize ids [(1, 1), (1, 3), (1, 2)] = j3 at *
  have hz : zlast = [.int .i64 0, .int .i64 0, .int .i64 0, .bool false, .int .i64 0, .int .i64 0, .int .i64 0, .int .i64 0, .bool false, .int .i64 0, .int .i64 0, .int .i64 0, .int .i64 0, .bool false, .int .i64 0, .int .i64 0, .int .i64 0, .int .i64 0, .bool false, .int .i64 0, .int .i64 0, .int .i64 0, .int .i64 0, .bool false, .int .i64 0, .int .i64 0, .int .i64 0, .int .i64 0, .bool false, .int .i64 0] := rfl
  rw [hz] at b
  have er : qrows [rq1 1, rq1 3] = [rqP (rq1 1), rqP (rq1 3)] := rfl
  have er0 : (qrows [rq1 1, rq1 3])[0]? = some [.int .i64 1, .int .i64 1, .int .i64 1, .int .i64 0, .int .i64 0, .int .i64 0, .sl 1 []] := rfl
  have er1 : (qrows [rq1 1, rq1 3])[1]? = some [.int .i64 1, .int .i64 3, .int .i64 1, .int .i64 0, .int .i64 0, .int .i64 0, .sl 1 []] := rfl
  have el : (qrows [rq1 1, rq1 3]).length = 2 := rfl
  generalize qrows [] = r0 at *
  generalize qrows [rq1 1] = r1 at *
  generalize qrows [rq1 1, rq1 3, rq1 2] = r3 at *
  clear er
  generalize qrows [rq1 1, rq1 3] = r2 at *
  generalize rqP (rq1 1) = p1 at *
  generalize rqP (rq1 3) = p2 at *
  generalize rqP (rq1 2) = p3 at *
  simp
  refine CallG.go n0 ?_
  simp
  refine CallG.go g1 ?_
  simp [List.idxOf?_cons]
  refine CallG.go a1 ?_
  simp
  refine CallG.go g2 ?_
  simp [List.idxOf?_cons]
  refine CallG.go a2 ?_
  simp
  refine CallG.go g3 ?_
  simp [List.idxOf?_cons]
  refine CallG.go a3 ?_
  simp [List.idxOf?_cons]
  refine CallG.go b ?_
  simp [-getElem?_pos, el, er0, er1, List.idxOf?_cons]
  refine CallG.go ln ?_
  simp
theorem longl (l : List Act) (ll : l.length ≤ 60) : ∀ (n k : Nat), k + n = l.length → ∀ (Q : Exit → S → Prop),
    ((¬ ∃ a ∈ l.drop k, 2000 < a.r.sig.length) → ∀ a b c d e, Q (.exit 0) (mk [(0, a), (8, b), (9, c), (10, d)] e)) →
    ((∃ a ∈ l.drop k, 2000 < a.r.sig.length) → Q .ret (mk [(2, .pv (.bool true))] [])) →
    LoopW Try.prog [0, 8, 9] [] irLaw16Long_L1 (mk [(0, .pv (.sl 38 (arows l))), (8, .pv (.int .i64 (l.length : Nat))), (9, .pv (.int .i64 (k : Nat)))] []) Q := by
  intro n
  induction n with
  | zero =>
    intro k hk Q h1 h2
    obtain rfl : k = l.length := by omega
    refine LoopW.go irLaw16Long_L1.eq_1 (by simp) ?_
    simp
    exact h1 (by simp) _ _ _ _ _
  | succ n ih =>
    intro k hk Q h1 h2
    have i1 : k < l.length := by omega
    obtain ⟨a, ha⟩ : ∃ a, l[k]? = some a := ⟨_, List.getElem?_eq_getElem (by omega)⟩
    have w : IntKind.i64.wrap ((k : Int) + 1) = (k + 1 : Nat) := by rw [wrap_i64] <;> omega
    have hd : l.drop k = a :: l.drop (k + 1) := by
      rw [List.drop_eq_getElem_cons i1]
      rw [List.getElem?_eq_getElem i1] at ha
      simp only [Option.some.injEq] at ha
      rw [ha]
    rw [hd] at h1 h2
    refine LoopW.go irLaw16Long_L1.eq_1 (by simp) ?_
    by_cases hs : 2000 < a.r.sig.length
    · have hs' : (2000 : Int) < (a.r.sig.length : Int) := by omega
      simp [-getElem?_pos, arows_get, i1, ha, actP, rqP, krows_length, hs, hs']
      exact h2 ⟨a, by simp, hs⟩
    · have hs' : ¬ (2000 : Int) < (a.r.sig.length : Int) := by omega
      simp [-getElem?_pos, arows_get, i1, ha, actP, rqP, krows_length, hs, hs', w]
      refine ih (k + 1) (by omega) Q (fun hn => h1 ?_) (fun ⟨b, hb, hb2⟩ => h2 ⟨b, List.mem_cons_of_mem _ hb, hb2⟩)
      rintro ⟨b, hb, hb2⟩
      rcases List.mem_cons.1 hb with rfl | hb
      · exact hs hb2
      · exact hn ⟨b, hb, hb2⟩
/-- A list of acts is long, or has few acts. -/
theorem long_c (l : List Act) : ∃ b, ACall Try.prog 10 [.pv (.sl 38 (arows l))] [] (.pv (.bool b)) [] [] ∧ (b = false → l.length ≤ 60) := by
  by_cases h1 : 60 < l.length
  · refine ⟨true, ?_, by simp⟩
    refine ACall.fn (fn := Try.f10) rfl okLaw16Long rfl (by simp) ?_
    simp only [argT, irLaw16Long.eq_1]
    have h1' : (60 : Int) < (l.length : Int) := by omega
    simp [arows_length, h1, h1']
  · have h1' : ¬ (60 : Int) < (l.length : Int) := by omega
    have lp := longl l (by omega) l.length 0 (by omega)
    rw [List.drop_zero] at lp
    by_cases hx : ∃ a ∈ l, 2000 < a.r.sig.length
    · refine ⟨true, ?_, by simp⟩
      refine ACall.fn (fn := Try.f10) rfl okLaw16Long rfl (by simp) ?_
      simp only [argT, irLaw16Long.eq_1]
      simp [arows_length, h1, h1']
      refine lp _ (fun h => absurd hx h) fun _ => ?_
      simp
    · refine ⟨false, ?_, fun _ => by omega⟩
      refine ACall.fn (fn := Try.f10) rfl okLaw16Long rfl (by simp) ?_
      simp only [argT, irLaw16Long.eq_1]
      simp [arows_length, h1, h1']
      refine lp _ (fun h a b c d e => ?_) fun h => absurd h hx
      simp

/-- A queue that is not there. -/
theorem addN_c (r : Rq) : ACall Try.prog 12 [.pv .nilp, .pagg (rqP r)] [] (.pv (.int .i64 16)) [] [] := by
  refine ACall.fn (fn := Try.f12) rfl okQueueQueueAdd rfl (by simp) ?_
  simp only [argT, irQueueQueueAdd.eq_1]
  simp [rqP]
theorem dropN_c (ps : List PV) : ACall Try.prog 20 [.pv .nilp, .pagg ps] [] (.tup []) [] [] := by
  refine ACall.fn (fn := Try.f20) rfl okQueueQueueDrop rfl (by simp) ?_
  simp only [argT, irQueueQueueDrop.eq_1]
  simp
theorem batchN_c (ps : List PV) : ACall Try.prog 13 [.pv .nilp, .pagg ps] [] (.os 36 7 []) [] [] := by
  refine ACall.fn (fn := Try.f13) rfl okQueueQueueBatch rfl (by simp) ?_
  simp only [argT, irQueueQueueBatch.eq_1]
  simp
theorem allN_c : ACall Try.prog 15 [.pv .nilp] [] (.os 36 7 []) [] [] := by
  refine ACall.fn (fn := Try.f15) rfl okQueueQueueAll rfl (by simp) ?_
  simp only [argT, irQueueQueueAll.eq_1]
  simp
theorem lenN_c : ACall Try.prog 22 [.pv .nilp] [] (.pv (.int .i64 0)) [] [] := by
  refine ACall.fn (fn := Try.f22) rfl okQueueQueueLen rfl (by simp) ?_
  simp only [argT, irQueueQueueLen.eq_1]
  simp

theorem ok_pair {a b : Shp} {ps : List PV} (h : OKs (.pair a b) ps) : ∃ p q, ps = p ++ q ∧ OKs a p ∧ OKs b q := ⟨_, _, (List.take_append_drop _ _).symm, h.1, h.2⟩
theorem ok_i {ps : List PV} (h : OKs (.int .i64) ps) : ∃ n, ps = [.int .i64 n] ∧ I64 n := ok_i64 h
theorem ok_unit {ps : List PV} (h : OKs .unit ps) : ps = [] := h
def shC : Shp := .pair .bool (.pair (.int .i64) .unit)
def shR : Shp := .pair (.int .i64) (.pair (.int .i64) (.pair (.int .i64) (.pair shC .unit)))
def shQ : Shp := .pair (.int .i64) (.pair (.int .i64) (.pair (.pair (.int .i64) (.pair (.int .i64) (.pair (.int .i64) (.pair (.int .i64) .unit)))) (.pair (.slice (.int .u8)) .unit)))
def shA : Shp := .pair (.int .i64) (.pair shQ (.pair (.arr 6 shR) .unit))
theorem ok_q {ps : List PV} (h : OKs shQ ps) : ∃ x : Rq, (I64 x.a ∧ I64 x.b ∧ x.sig.length ≤ maxLen) ∧ ps = rqP x := by
  obtain ⟨p, q, rfl, h1, h⟩ := ok_pair h
  obtain ⟨q, r, rfl, h2, h⟩ := ok_pair h
  obtain ⟨r, t, rfl, h3, h⟩ := ok_pair h
  obtain ⟨t, u, rfl, h4, h5⟩ := ok_pair h
  obtain ⟨a, rfl, _⟩ := ok_i h1
  obtain ⟨b, rfl, _⟩ := ok_i h2
  obtain ⟨p1, q1, rfl, e1, k1⟩ := ok_pair h3
  obtain ⟨q2, r2, rfl, e2, k2⟩ := ok_pair k1
  obtain ⟨r3, v3, rfl, e3, k3⟩ := ok_pair k2
  obtain ⟨v4, x4, rfl, e4, k4⟩ := ok_pair k3
  obtain ⟨c, rfl, _⟩ := ok_i e1
  obtain ⟨d, rfl, _⟩ := ok_i e2
  obtain ⟨e', rfl, he⟩ := ok_i e3
  obtain ⟨f, rfl, hf⟩ := ok_i e4
  rw [ok_unit k4]
  obtain ⟨l, rfl, hl, _⟩ := ok_sln rfl h4
  rw [ok_unit h5]
  exact ⟨⟨a, b, c, d, e', f, l⟩, ⟨he, hf, hl⟩, rfl⟩
theorem ok_r {ps : List PV} (h : OKs shR ps) : ps.length = 5 ∧ ∃ z, ps[1]? = some (.int .i64 z) := by
  obtain ⟨p, q, rfl, h1, h⟩ := ok_pair h
  obtain ⟨q, r, rfl, h2, h⟩ := ok_pair h
  obtain ⟨r, t, rfl, h3, h⟩ := ok_pair h
  obtain ⟨t, u, rfl, h4, h5⟩ := ok_pair h
  obtain ⟨a, rfl, _⟩ := ok_i h1
  obtain ⟨b, rfl, _⟩ := ok_i h2
  obtain ⟨c, rfl, _⟩ := ok_i h3
  obtain ⟨p1, q1, rfl, e1, k1⟩ := ok_pair h4
  obtain ⟨q2, r2, rfl, e2, k2⟩ := ok_pair k1
  obtain ⟨x, rfl⟩ := e1
  obtain ⟨y, rfl, _⟩ := ok_i e2
  rw [ok_unit k2, ok_unit h5]
  exact ⟨rfl, b, rfl⟩
theorem ok_last {ps : List PV} (h : OKs (.arr 6 shR) ps) : ∃ ls, LastP ps ls := by
  obtain ⟨h1, h2⟩ := h
  have h1' : ps.length = 30 := h1
  have key : ∀ i, i < 6 → ∃ z, ps[i * 5 + 1]? = some (.int .i64 z) := fun i hi => by
    obtain ⟨g1, z, g2⟩ := ok_r (h2 i hi)
    refine ⟨z, ?_⟩
    have e : shR.size = 5 := rfl
    rw [e, List.getElem?_take, if_pos (by omega), List.getElem?_drop] at g2
    exact g2
  obtain ⟨z0, k0⟩ := key 0 (by omega)
  obtain ⟨z1, k1⟩ := key 1 (by omega)
  obtain ⟨z2, k2⟩ := key 2 (by omega)
  obtain ⟨z3, k3⟩ := key 3 (by omega)
  obtain ⟨z4, k4⟩ := key 4 (by omega)
  obtain ⟨z5, k5⟩ := key 5 (by omega)
  refine ⟨[z0, z1, z2, z3, z4, z5], h1', rfl, fun c z hz => ?_⟩
  match c with
  | 0 => cases hz; exact k0
  | 1 => cases hz; exact k1
  | 2 => cases hz; exact k2
  | 3 => cases hz; exact k3
  | 4 => cases hz; exact k4
  | 5 => cases hz; exact k5
  | c + 6 => simp at hz
theorem ok_act {ps : List PV} (h : OKs shA ps) : ∃ a : Act, AOk a ∧ ps = actP a := by
  obtain ⟨p, q, rfl, h1, h⟩ := ok_pair h
  obtain ⟨q, r, rfl, h2, h⟩ := ok_pair h
  obtain ⟨r, t, rfl, h3, h4⟩ := ok_pair h
  obtain ⟨a, rfl, _⟩ := ok_i h1
  obtain ⟨x, hx, rfl⟩ := ok_q h2
  have hl := ok_last h3
  rw [ok_unit h4]
  exact ⟨⟨a, x, r⟩, ⟨hx.1, hx.2.1, hl⟩, by simp [actP]⟩
theorem ok_acts : ∀ {es : List (List PV)}, (∀ e ∈ es, OKs shA e) → ∃ l : List Act, es = arows l ∧ ∀ a ∈ l, AOk a
  | [], _ => ⟨[], rfl, by simp⟩
  | e :: es, h => by
    obtain ⟨r, hr, rfl⟩ := ok_act (h e (by simp))
    obtain ⟨l, rfl, hl⟩ := ok_acts (es := es) fun x hx => h x (by simp [hx])
    exact ⟨r :: l, rfl, fun q hq => by
      rcases List.mem_cons.1 hq with rfl | hq
      · exact hr
      · exact hl q hq⟩
theorem arg_acts {w : World} {a : Option Addr} {n c : Nat} (h : Shp.Reads w (.slice shA) [.slice a n c]) : ∃ l : List Act, ArgR w (.slice a n c) (.pv (.sl 38 (arows l))) ∧ l.length ≤ maxLen ∧ ∀ a ∈ l, AOk a := by
  obtain ⟨ps, h1, h2, h3⟩ := pvs_of_reads rfl h
  obtain ⟨es, rfl, hl, he⟩ := h2
  obtain ⟨l, rfl, hr⟩ := ok_acts he
  rw [arows_length] at hl
  exact ⟨l, ArgR.pv (h1.2 0 _ _ rfl rfl), hl, hr⟩
theorem arg_req {w : World} {c : Array Value} (h : Shp.Reads w shQ c.toList) : ∃ r : Rq, ArgR w (.agg c) (.pagg (rqP r)) := by
  obtain ⟨ps, h1, h2, h3⟩ := pvs_of_reads rfl h
  obtain ⟨r, hr, rfl⟩ := ok_q h2
  exact ⟨r, ArgR.agg h1⟩
theorem arg_last {w : World} {c : Array Value} (h : Shp.Reads w (.arr 6 shR) c.toList) : ∃ ps ls, ArgR w (.agg c) (.pagg ps) ∧ LastP ps ls := by
  obtain ⟨ps, h1, h2, h3⟩ := pvs_of_reads rfl h
  obtain ⟨ls, hl⟩ := ok_last h2
  exact ⟨ps, ls, ArgR.agg h1, hl⟩
theorem lawNil_c (r : Rq) : ACall Try.prog 7 [.pagg (rqP r)] [] (.pv (.bool true)) [] [] := by
  refine ACall.fn (fn := Try.f7) rfl okLaw16QueueNil rfl (by simp) ?_
  simp only [argT, irLaw16QueueNil.eq_1]
  have c1 := addN_c r
  have c2 := dropN_c zlast
  have c3 := batchN_c zlast
  simp only [zlast, rqP] at c1 c2 c3
  simp [rqP]
  refine CallG.go c2 ?_
  simp
  refine CallG.go wakes_c ?_
  simp
  refine CallG.go c1 ?_
  simp
  refine CallG.go c3 ?_
  simp
  refine CallG.go allN_c ?_
  simp
  refine CallG.go lenN_c ?_
  simp
theorem walkQueueNil (c0 : Array Value) (w : World) (k0 : Shp.Reads w shQ c0.toList) :
     Calls Try.prog 7 #[.agg c0] w fun e w' => e = .returned (.bool true) ∧ Below w.heap.size w w' := by
  obtain ⟨r, q0⟩ := arg_req k0
  refine lawCalls (lawNil_c r) rfl fun i v av hv ha => ?_
  match i with
  | 0 => cases hv; cases ha; exact q0
  | n + 1 => simp at hv
end Go.Proofs.Ytcceiicpploclaa
