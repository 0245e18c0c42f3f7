/- wire.Put of the example, wakes; the law WireSize. -/
import Derived.Test.YtekpgcohlpkmnaaWireB
set_option linter.unusedVariables false
set_option linter.unusedSimpArgs false
namespace Go.Proofs.Ytekpgcohlpkmnaa
open Go.Abs Go.RowKit Go.Ours

def M0 : Ms := ⟨2, 3, 0, 0, 0, List.replicate 32 0, [], []⟩
theorem M0_ok : M0.Ok := ⟨rfl, by decide, by decide, by intro p hp; cases hp⟩
theorem within_c (n b : Nat) (h : n ≤ b) : ACall Try.prog 33 [.pv (.int .i64 (n : Nat)), .pv (.int .i64 (b : Nat))] [] (.pv (.bool true)) [] [] := by
  refine ACall.fn (fn := Try.f33) rfl okWireWithin rfl (by simp) ?_
  simp only [argT, irWireWithin.eq_1]
  have h' : (n : Int) ≤ (b : Int) := by omega
  simp [h, h']
theorem formed0 : ACall Try.prog 22 [.pagg (msP M0)] [] (.pv (.bool true)) [] [] := by
  refine ACall.fn (fn := Try.f22) rfl okWireFormed rfl (by simp) ?_
  simp only [argT, irWireFormed.eq_1]
  have hl := msP_len M0 rfl
  have h0 : (msP M0)[0]? = some (.int .i64 2) := msP_0 M0
  have h1 : (msP M0)[1]? = some (.int .i64 3) := msP_1 M0
  have h2 : (msP M0)[2]? = some (.int .i64 0) := msP_2 M0
  have h3 : (msP M0)[3]? = some (.int .i64 0) := msP_3 M0
  have h4 : (msP M0)[4]? = some (.int .i64 0) := msP_4 M0
  generalize msP M0 = q at *
  simp [-getElem?_pos, hl, h0, h1]
  refine CallG.go (within_c 3 15 (by decide)) ?_
  simp [-getElem?_pos, hl, h2]
  refine CallG.go (within_c 0 60 (by decide)) ?_
  simp [-getElem?_pos, hl, h3]
  refine CallG.go (within_c 0 40 (by decide)) ?_
  simp [-getElem?_pos, hl, h4]
  refine CallG.go (within_c 0 60 (by decide)) ?_
  simp
theorem widths_c : ACall Try.prog 23 [] [] (.pagg [.int .i64 1, .int .i64 1, .int .i64 2, .int .i64 2, .int .i64 2]) [] [] := by
  refine ACall.fn (fn := Try.f23) rfl okWireWidths rfl (by simp) ?_
  simp only [argT, irWireWidths.eq_1]
  simp
theorem zeros_rows : (kns .u8 (List.replicate 32 0)).map (fun p => [p]) = krows .u8 (List.replicate 32 0) := by simp [kns, krows]
theorem putText0 (b : List Nat) (hb : b.length ≤ 10000000000) : ACall Try.prog 25 [.pv (.sl 1 (krows .u8 b)), .pv (.sl 1 (krows .u8 []))] [] (.os 5 1 (krows .u8 (b ++ [0]))) [] [] := by
  have h := putText_c b [] hb (by simp)
  have e : txt [] = [0] := by rw [txt, List.length_nil, packed_small (by decide)]; rfl
  rwa [e] at h
theorem putPacked0 (b : List Nat) (hb : b.length ≤ 10000000000) : ACall Try.prog 26 [.pv (.sl 1 (krows .u8 b)), .pv (.int .u64 0)] [] (.os 5 1 (krows .u8 (b ++ [0]))) [] [] := by
  have h := putPacked_c b 0 hb (by decide)
  rwa [packed_small (by decide)] at h
theorem size0 : ACall Try.prog 8 [.pagg (msP M0)] [] (.pv (.int .i64 42)) [] [] := by
  have h := size_c M0 M0_ok
  have e : sizeF M0 = 42 := by
    show 40 + (txt []).length + (packed 0).length + (txts []).length = 42
    simp [txt, packed_small, txts]
  rwa [e] at h
theorem put0 : ACall Try.prog 11 [.pagg (msP M0)] [] (.tup [.os 5 1 (krows .u8 ([2, 3, 0, 0, 0, 0, 0, 0] ++ List.replicate 32 0 ++ [0] ++ [0])), .pv (.int .i64 0)]) [] [] := by
  refine ACall.fn (fn := Try.f11) rfl okWirePut rfl (by simp) ?_
  simp only [argT, irWirePut.eq_1]
  have hl := msP_len M0 rfl
  have h0 : (msP M0)[0]? = some (.int .i64 2) := msP_0 M0
  have h1 : (msP M0)[1]? = some (.int .i64 3) := msP_1 M0
  have h2 : (msP M0)[2]? = some (.int .i64 0) := msP_2 M0
  have h3 : (msP M0)[3]? = some (.int .i64 0) := msP_3 M0
  have h4 : (msP M0)[4]? = some (.int .i64 0) := msP_4 M0
  have h5 : ((msP M0).drop 5).take 32 = kns .u8 (List.replicate 32 0) := msP_h M0 rfl
  have h37 : (msP M0)[37]? = some (.sl 1 (krows .u8 [])) := msP_37 M0 rfl
  have h38 : (msP M0)[38]? = some (.sl 1 (trows [])) := msP_38 M0 rfl
  have s0 := size0
  have f0 := formed0
  have e2 : krows .u8 [2] = [[.int .u8 2]] := rfl
  have p0 : ACall Try.prog 24 [.pv (.sl 1 (krows .u8 [])), .pv (.int .u64 2), .pv (.int .i64 1)] [] (.os 5 1 (krows .u8 [2])) [] [] := put1_c [] 2 (by simp)
  have p1 : ACall Try.prog 24 [.pv (.sl 1 (krows .u8 [2])), .pv (.int .u64 3), .pv (.int .i64 1)] [] (.os 5 1 (krows .u8 [2, 3])) [] [] := put1_c [2] 3 (by simp)
  have p2 : ACall Try.prog 24 [.pv (.sl 1 (krows .u8 [2, 3])), .pv (.int .u64 0), .pv (.int .i64 2)] [] (.os 5 1 (krows .u8 [2, 3, 0, 0])) [] [] := put2_c [2, 3] 0 (by simp)
  have p3 : ACall Try.prog 24 [.pv (.sl 1 (krows .u8 [2, 3, 0, 0])), .pv (.int .u64 0), .pv (.int .i64 2)] [] (.os 5 1 (krows .u8 [2, 3, 0, 0, 0, 0])) [] [] := put2_c [2, 3, 0, 0] 0 (by simp)
  have p4 : ACall Try.prog 24 [.pv (.sl 1 (krows .u8 [2, 3, 0, 0, 0, 0])), .pv (.int .u64 0), .pv (.int .i64 2)] [] (.os 5 1 (krows .u8 [2, 3, 0, 0, 0, 0, 0, 0])) [] [] := put2_c [2, 3, 0, 0, 0, 0] 0 (by simp)
  have p5 := putText0 ([2, 3, 0, 0, 0, 0, 0, 0] ++ List.replicate 32 0) (by simp)
  have p6 := putPacked0 ([2, 3, 0, 0, 0, 0, 0, 0] ++ List.replicate 32 0 ++ [0]) (by simp)
  have zr := zeros_rows
  generalize msP M0 = q at *
  have lz : (List.replicate 32 0 : List Nat).length = 32 := List.length_replicate
  generalize (List.replicate 32 0 : List Nat) = z at *
  simp [-getElem?_pos, -List.reduceReplicate, hl, h38, trows_length]
  refine CallG.go s0 ?_
  simp [-getElem?_pos, -List.reduceReplicate, hl]
  refine CallG.go f0 ?_
  simp [-List.reduceReplicate]
  refine CallG.go widths_c ?_
  have r5 : List.replicate 5 (PV.int .i64 0) = [.int .i64 0, .int .i64 0, .int .i64 0, .int .i64 0, .int .i64 0] := rfl
  simp [-getElem?_pos, hl, h0, h1, h2, h3, h4]
  have u2 : IntKind.u64.wrap 2 = 2 := by decide
  have u3 : IntKind.u64.wrap 3 = 3 := by decide
  have u0 : IntKind.u64.wrap 0 = 0 := by decide
  refine LoopW.go irWirePut_L1.eq_1 (by simp) ?_
  simp [u2]
  refine CallG.go p0 ?_
  simp
  refine LoopW.go irWirePut_L1.eq_1 (by simp) ?_
  simp [u3]
  refine CallG.go p1 ?_
  simp
  refine LoopW.go irWirePut_L1.eq_1 (by simp) ?_
  simp [u0]
  refine CallG.go p2 ?_
  simp
  refine LoopW.go irWirePut_L1.eq_1 (by simp) ?_
  simp [u0]
  refine CallG.go p3 ?_
  simp
  refine LoopW.go irWirePut_L1.eq_1 (by simp) ?_
  simp [u0]
  refine CallG.go p4 ?_
  simp
  refine LoopW.go irWirePut_L1.eq_1 (by simp) ?_
  have q8 : ([2, 3, 0, 0, 0, 0, 0, 0] : List Nat).length = 8 := rfl
  generalize hy : ([2, 3, 0, 0, 0, 0, 0, 0] : List Nat) = y at *
  simp [-getElem?_pos, hl, h5, h37, zr, krows_app, krows_length, kns_length, lz, q8]
  refine CallG.go p5 ?_
  simp [-getElem?_pos, hl, h38, trows_length, u0]
  have a1 : y ++ z ++ [0] ++ [0] = y ++ (z ++ [0, 0]) := by simp
  rw [a1, List.append_assoc] at p6
  refine CallG.go p6 ?_
  simp [-getElem?_pos, hl, h38, trows_length]
  refine LoopW.go irWirePut_L2.eq_1 (by simp) ?_
  simp [← hy]
theorem wakes_c : ACall Try.prog 6 [] [] (.pv (.bool true)) [] [] := by
  refine ACall.fn (fn := Try.f6) rfl okLaw08Wakes rfl (by simp) ?_
  simp only [argT, irLaw08Wakes.eq_1]
  have c := put0
  have e : msP M0 = [.int .i64 2, .int .i64 3, .int .i64 0, .int .i64 0, .int .i64 0, .int .u8 0, .int .u8 0, .int .u8 0, .int .u8 0, .int .u8 0, .int .u8 0, .int .u8 0, .int .u8 0, .int .u8 0, .int .u8 0, .int .u8 0, .int .u8 0, .int .u8 0, .int .u8 0, .int .u8 0, .int .u8 0, .int .u8 0, .int .u8 0, .int .u8 0, .int .u8 0, .int .u8 0, .int .u8 0, .int .u8 0, .int .u8 0, .int .u8 0, .int .u8 0, .int .u8 0, .int .u8 0, .int .u8 0, .int .u8 0, .int .u8 0, .int .u8 0, .sl 1 [], .sl 1 []] := rfl
  rw [e] at c
  have f : ([2, 3, 0, 0, 0, 0, 0, 0] ++ List.replicate 32 0 ++ [0] ++ [0] : List Nat).length = 42 := by decide
  have g0 : ([2, 3, 0, 0, 0, 0, 0, 0] ++ List.replicate 32 0 ++ [0] ++ [0] : List Nat)[0]? = some 2 := by decide
  have g1 : ([2, 3, 0, 0, 0, 0, 0, 0] ++ List.replicate 32 0 ++ [0] ++ [0] : List Nat)[1]? = some 3 := by decide
  have g41 : ([2, 3, 0, 0, 0, 0, 0, 0] ++ List.replicate 32 0 ++ [0] ++ [0] : List Nat)[41]? = some 0 := by decide
  generalize ([2, 3, 0, 0, 0, 0, 0, 0] ++ List.replicate 32 0 ++ [0] ++ [0] : List Nat) = b at *
  simp
  refine CallG.go c ?_
  simp [-getElem?_pos, krows_length, krows_get, f, g0, g1, g41]
theorem lawSize_c (M : Ms) (hh : M.hash.length = 32) : ACall Try.prog 3 [.pagg (msP M)] [] (.pv (.bool true)) [] [] := by
  refine ACall.fn (fn := Try.f3) rfl okLaw08WireSize rfl (by simp) ?_
  simp only [argT, irLaw08WireSize.eq_1]
  have hl := msP_len M hh
  have c1 := long_c M hh
  cases h : longF M
  · rw [h] at c1
    have c2 := size_c M (ok_of hh h)
    have c3 := refBytes_c M (ok_of hh h)
    have e := bytesF_len M hh
    generalize msP M = q at *
    generalize bytesF M = b at *
    simp
    refine CallG.go wakes_c ?_
    simp [hl]
    refine CallG.go c1 ?_
    simp [hl]
    refine CallG.go c2 ?_
    simp [hl]
    refine CallG.go c3 ?_
    simp [krows_length, e]
  · rw [h] at c1
    generalize msP M = q at *
    simp
    refine CallG.go wakes_c ?_
    simp [hl]
    refine CallG.go c1 ?_
    simp
theorem ok_pair {a b : Shp} {ps : List PV} (h : OKs (.pair a b) ps) : ∃ p q, ps = p ++ q ∧ OKs a p ∧ OKs b q := ⟨_, _, (List.take_append_drop _ _).symm, h.1, h.2⟩
theorem ok_int {k : IntKind} {ps : List PV} (h : OKs (.int k) ps) : ∃ n, ps = [.int k n] := by
  obtain ⟨n, h, _⟩ := h
  exact ⟨n, h⟩
theorem ok_unit {ps : List PV} (h : OKs .unit ps) : ps = [] := h
def shM : Shp := .pair (.int .i64) (.pair (.int .i64) (.pair (.int .i64) (.pair (.int .i64) (.pair (.int .i64) (.pair (.arr 32 (.int .u8)) (.pair (.slice (.int .u8)) (.pair (.slice (.slice (.int .u8))) .unit)))))))
/-- A message. -/
theorem arg_msg {w : World} {c : Array Value} (h : Shp.Reads w shM c.toList) : ∃ M : Ms, ArgR w (.agg c) (.pagg (msP M)) ∧ M.hash.length = 32 := by
  obtain ⟨ps, h1, h2, h3⟩ := pvs_of_reads rfl h
  obtain ⟨p, q, rfl, g1, g⟩ := ok_pair h2
  obtain ⟨q, r, rfl, g2, g⟩ := ok_pair g
  obtain ⟨r, t, rfl, g3, g⟩ := ok_pair g
  obtain ⟨t, u, rfl, g4, g⟩ := ok_pair g
  obtain ⟨u, x, rfl, g5, g⟩ := ok_pair g
  obtain ⟨x, y, rfl, g6, g⟩ := ok_pair g
  obtain ⟨y, z, rfl, g7, g⟩ := ok_pair g
  obtain ⟨z, z', rfl, g8, g9⟩ := ok_pair g
  obtain ⟨a, rfl⟩ := ok_int g1
  obtain ⟨b, rfl⟩ := ok_int g2
  obtain ⟨c', rfl⟩ := ok_int g3
  obtain ⟨d, rfl⟩ := ok_int g4
  obtain ⟨e, rfl⟩ := ok_int g5
  obtain ⟨hs, rfl, hl, _⟩ := ok_arrn rfl g6
  obtain ⟨bo, rfl, _, _⟩ := ok_sln rfl g7
  obtain ⟨es, rfl, q1, q2⟩ := g8
  obtain ⟨T, rfl, _, _, _⟩ := trows_of (ps := es) fun p hp => ok_sln rfl (q2 p hp)
  rw [ok_unit g9] at h1
  refine ⟨⟨a, b, c', d, e, hs, bo, T⟩, ArgR.agg ?_, hl⟩
  simpa [msP, Shp.size] using h1
theorem walkWireSize (c0 : Array Value) (w : World) (k0 : Shp.Reads w shM c0.toList) :
     Calls Try.prog 3 #[.agg c0] w fun e w' => e = .returned (.bool true) ∧ Below w.heap.size w w' := by
  obtain ⟨M, q0, hh⟩ := arg_msg k0
  refine lawCalls (lawSize_c M hh) rfl fun i v av hv ha => ?_
  match i with
  | 0 => cases hv; cases ha; exact q0
  | n + 1 => simp at hv
end Go.Proofs.Ytekpgcohlpkmnaa
