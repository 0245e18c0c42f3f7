/- A reply's bytes: contracts. -/
import Derived.Test.YtdbbbaaopngbcaaExB1
import Derived.Test.YtdbbbaaopngbcaaArgTxt
set_option linter.unusedVariables false
set_option linter.unusedSimpArgs false
namespace Go.Proofs.Ytdbbbaaopngbcaa
open Go.Abs Go.RowKit Go.Ours

def lo (n : Int) : Nat := uw n % 256
theorem lo_lt (n : Int) : lo n < 256 := Nat.mod_lt _ (by decide)
theorem lo_u8 (n : Int) : IntKind.u8.wrap n = (lo n : Int) := by
  unfold lo uw
  simp [IntKind.wrap, IntKind.bits, IntKind.signed]
  omega
def b01 (b : Bool) : Nat := if b then 1 else 0
def repHead (r : Rp) : List Nat := [lo r.client, lo r.seq, lo r.slot, b01 r.res.1]
def repB (r : Rp) : List Nat := repHead r ++ packed (foldN r.res.2)
theorem repB_len (r : Rp) (h : I64 r.res.2) : (repB r).length ≤ 14 := by
  have := packed_len64 (foldN r.res.2) (foldN_lt _ h)
  simp [repB, repHead]
  omega
theorem putReply_c (r : Rp) (h : I64 r.res.2) : ACall Try.prog 32 [.pagg (rpP r)] [] (.os 5 1 (krows .u8 (repB r))) [] [] := by
  refine ACall.fn (fn := Try.f32) rfl okExecsPutReply rfl (by simp) ?_
  simp only [argT, irExecsPutReply.eq_1]
  obtain ⟨c, s, t, b, m⟩ := r
  simp only at h
  have p0 := put1_c [] (uw c) (by simp)
  have p1 := put1_c [lo c] (uw s) (by simp)
  have p2 := put1_c [lo c, lo s] (uw t) (by simp)
  have p3 := put1_c [lo c, lo s, lo t] (b01 b) (by simp)
  rw [Nat.mod_eq_of_lt (show b01 b < 256 by cases b <;> decide)] at p3
  have e0 : uw c % 256 = lo c := rfl
  have e1 : uw s % 256 = lo s := rfl
  have e2 : uw t % 256 = lo t := rfl
  rw [e0] at p0
  rw [e1] at p1
  rw [e2] at p2
  simp only [List.nil_append, List.cons_append] at p0 p1 p2 p3
  have p4 := putFolded_c [lo c, lo s, lo t, b01 b] m (by simp) h
  have w0 := uw_wrap c
  have w1 := uw_wrap s
  have w2 := uw_wrap t
  have w3 : IntKind.u64.wrap (b01 b : Int) = (b01 b : Int) := by cases b <;> decide
  unfold repB repHead
  simp only
  generalize hq' : [lo c, lo s, lo t, b01 b] = q3 at *
  generalize [lo c, lo s, lo t] = q2 at *
  generalize [lo c, lo s] = q1 at *
  generalize [lo c] = q0 at *
  generalize uw c = uc at *
  generalize uw s = us at *
  generalize uw t = ut at *
  generalize foldN m = fm at *
  have hb : (if b = true then (1 : Int) else 0) = (b01 b : Int) := by cases b <;> rfl
  cases b
  · rw [show b01 false = 0 from rfl] at p3 w3
    rw [show ((0 : Nat) : Int) = 0 from rfl] at p3 w3
    simp [rpP]
    refine LoopW.go irExecsPutReply_L1.eq_1 (by simp) ?_
    simp [w0]
    refine CallG.go p0 ?_
    simp
    refine LoopW.go irExecsPutReply_L1.eq_1 (by simp) ?_
    simp [w1]
    refine CallG.go p1 ?_
    simp
    refine LoopW.go irExecsPutReply_L1.eq_1 (by simp) ?_
    simp [w2]
    refine CallG.go p2 ?_
    simp
    refine LoopW.go irExecsPutReply_L1.eq_1 (by simp) ?_
    simp [w3]
    refine CallG.go p3 ?_
    simp
    refine LoopW.go irExecsPutReply_L1.eq_1 (by simp) ?_
    simp
    refine CallG.go p4 ?_
    simp
  · rw [show b01 true = 1 from rfl] at p3 w3
    rw [show ((1 : Nat) : Int) = 1 from rfl] at p3 w3
    simp [rpP]
    refine LoopW.go irExecsPutReply_L1.eq_1 (by simp) ?_
    simp [w0]
    refine CallG.go p0 ?_
    simp
    refine LoopW.go irExecsPutReply_L1.eq_1 (by simp) ?_
    simp [w1]
    refine CallG.go p1 ?_
    simp
    refine LoopW.go irExecsPutReply_L1.eq_1 (by simp) ?_
    simp [w2]
    refine CallG.go p2 ?_
    simp
    refine LoopW.go irExecsPutReply_L1.eq_1 (by simp) ?_
    simp [w3]
    refine CallG.go p3 ?_
    simp
    refine LoopW.go irExecsPutReply_L1.eq_1 (by simp) ?_
    simp
    refine CallG.go p4 ?_
    simp
theorem refPutReply_c (r : Rp) (h : I64 r.res.2) : ACall Try.prog 38 [.pagg (rpP r)] [] (.os 5 1 (krows .u8 (repB r))) [] [] := by
  refine ACall.fn (fn := Try.f38) rfl okRef15PutReply rfl (by simp) ?_
  simp only [argT, irRef15PutReply.eq_1]
  obtain ⟨c, s, t, b, m⟩ := r
  simp only at h
  have c1 := refFold_c m h
  have c2 := refPacked_c (foldN m) (foldN_lt m h)
  have hl := packed_len64 (foldN m) (foldN_lt m h)
  have w0 := lo_u8 c
  have w1 := lo_u8 s
  have w2 := lo_u8 t
  unfold repB repHead
  simp only
  generalize lo c = lc at *
  generalize lo s = ls at *
  generalize lo t = lt at *
  generalize foldN m = fm at *
  generalize packed fm = pm at *
  cases b
  · simp [rpP, w0, w1, w2]
    refine CallG.go c1 ?_
    simp
    refine CallG.go c2 ?_
    simp [krows, b01]
    omega
  · simp [rpP, w0, w1, w2]
    refine CallG.go c1 ?_
    simp
    refine CallG.go c2 ?_
    simp [krows, b01]
    omega
/-- A reply as its bytes tell it. -/
def cutR (r : Rp) : Rp := ⟨(lo r.client : Nat), (lo r.seq : Nat), (lo r.slot : Nat), r.res⟩
theorem getReply_c (r : Rp) (h : I64 r.res.2) : ACall Try.prog 46 [.pv (.sl 1 (krows .u8 (repB r)))] [] (.tup [.pagg (rpP (cutR r)), .pv (.int .i64 0)]) [] [] := by
  refine ACall.fn (fn := Try.f46) rfl okExecsGetReply rfl (by simp) ?_
  simp only [argT, irExecsGetReply.eq_1]
  have hlen := repB_len r h
  obtain ⟨c, s, t, b, m⟩ := r
  simp only at h
  obtain ⟨d, hd⟩ : ∃ d, d = repB ⟨c, s, t, (b, m)⟩ := ⟨_, rfl⟩
  rw [← hd] at hlen ⊢
  have hd2 : d = [lo c, lo s, lo t, b01 b] ++ packed (foldN m) := hd
  have g0 : d[0]? = some (lo c) := by rw [hd2]; rfl
  have g1 : d[1]? = some (lo s) := by rw [hd2]; rfl
  have g2 : d[2]? = some (lo t) := by rw [hd2]; rfl
  have g3 : d[3]? = some (b01 b) := by rw [hd2]; rfl
  have d4 : d.drop 4 = packed (foldN m) ++ [] := by rw [hd2, List.append_nil]; rfl
  have le : 4 + (packed (foldN m)).length = d.length := by rw [hd2]; simp; omega
  have l0 := lo_lt c
  have l1 := lo_lt s
  have l2 := lo_lt t
  have l3 : b01 b < 256 := by cases b <;> decide
  have n0 := newr_c d (by omega)
  have f0 := fixed1_c d 0 _ (by omega) g0 l0
  have f1 := fixed1_c d 1 _ (by omega) g1 l1
  have f2 := fixed1_c d 2 _ (by omega) g2 l2
  have f3 := fixed1_c d 3 _ (by omega) g3 l3
  have f4 := folded_c d [] 4 m (by omega) h d4
  have f6 := done0_c d _ (by omega) le
  have w0 : IntKind.i64.wrap (lo c : Int) = (lo c : Int) := by rw [wrap_i64] <;> omega
  have w1 : IntKind.i64.wrap (lo s : Int) = (lo s : Int) := by rw [wrap_i64] <;> omega
  have w2 : IntKind.i64.wrap (lo t : Int) = (lo t : Int) := by rw [wrap_i64] <;> omega
  have w3 : IntKind.i64.wrap (b01 b : Int) = (b01 b : Int) := by rw [wrap_i64] <;> omega
  simp only [Nat.zero_add, Nat.reduceAdd] at f0 f1 f2 f3
  unfold cutR
  simp only
  generalize 4 + (packed (foldN m)).length = k6 at *
  generalize rdP d k6 = q6 at *
  generalize rdP d 4 = q4 at *
  generalize rdP d 3 = q3 at *
  generalize rdP d 2 = q2 at *
  generalize rdP d 1 = q1 at *
  generalize rdP d 0 = q0 at *
  have hb1 : ¬ (1 : Int) < (b01 b : Int) := by cases b <;> decide
  have hb1' : ¬ 1 < b01 b := by cases b <;> decide
  have hb2 : ((b01 b : Int) == 1) = b := by cases b <;> rfl
  generalize lo c = lc at *
  generalize lo s = ls at *
  generalize lo t = lt at *
  generalize b01 b = bb at *
  simp [rpP]
  refine CallG.go n0 ?_
  simp
  refine LoopW.go irExecsGetReply_L1.eq_1 (by simp) ?_
  simp
  refine CallG.go f0 ?_
  simp [w0]
  refine LoopW.go irExecsGetReply_L1.eq_1 (by simp) ?_
  simp
  refine CallG.go f1 ?_
  simp [w1]
  refine LoopW.go irExecsGetReply_L1.eq_1 (by simp) ?_
  simp
  refine CallG.go f2 ?_
  simp [w2]
  refine LoopW.go irExecsGetReply_L1.eq_1 (by simp) ?_
  simp
  refine CallG.go f3 ?_
  simp [w3]
  refine LoopW.go irExecsGetReply_L1.eq_1 (by simp) ?_
  simp
  refine CallG.go f4 ?_
  simp [hb1, hb1']
  refine CallG.go f6 ?_
  simp [hb2]
end Go.Proofs.Ytdbbbaaopngbcaa
