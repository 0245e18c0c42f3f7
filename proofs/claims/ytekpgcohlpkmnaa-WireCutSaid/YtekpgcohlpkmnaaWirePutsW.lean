/- The law WirePuts. No condition. -/
import Derived.Test.YtekpgcohlpkmnaaWireV
import Derived.Test.YtekpgcohlpkmnaaWireE
set_option linter.unusedVariables false
set_option linter.unusedSimpArgs false
namespace Go.Proofs.Ytekpgcohlpkmnaa
open Go.Abs Go.RowKit Go.Ours

theorem bytesF_le {M : Ms} (h : M.Ok) : (bytesF M).length ≤ 100000 := by
  have hbl := txt_len M.body h.body
  have hpl := packed_len64 M.parts.length (by have := h.parts; omega)
  have htl := txts_len M.parts h.part
  have := h.parts
  rw [bytesF_len M h.hash]
  unfold sizeF
  omega
theorem lawPuts_c (M : Ms) (hh : M.hash.length = 32) (hhb : ∀ x ∈ M.hash, x < 256) : ACall Try.prog 4 [.pagg (msP M)] [] (.pv (.bool true)) [] [] := by
  refine ACall.fn (fn := Try.f4) rfl okLaw08WirePuts rfl (by simp) ?_
  simp only [argT, irLaw08WirePuts.eq_1]
  have hl := msP_len M hh
  have c1 := long_c M hh
  cases hlong : longF M
  rotate_left
  · rw [hlong] at c1
    generalize msP M = q at *
    simp
    refine CallG.go wakes_c ?_
    simp [hl]
    refine CallG.go c1 ?_
    simp
  rw [hlong] at c1
  have hok := ok_of hh hlong
  have c2 := copied_c M hok
  have c3 := put_c M hok
  have c4 := refPut_c M hok
  have c6 := sameM_c M hok
  have hbl := bytesF_le hok
  have c5 : ACall Try.prog 13 [.pv (.sl 1 (krows .u8 (putF M).1)), .pv (.sl 1 (krows .u8 (putF M).1))] [] (.pv (.bool true)) [] [] := by
    have := same_c (putF M).1 (putF M).1 (by
      unfold putF
      split
      · simp
      · split
        · show (bytesF M).length < _
          omega
        · simp)
    rwa [decide_eq_true rfl] at this
  by_cases he : (putF M).2 = 0
  · have hn : numF M = true ∧ ¬ 16 < M.parts.length ∧ ¬ 65504 < sizeF M ∧ (putF M).1 = bytesF M := by
      revert he
      unfold putF
      split
      · intro he; cases he
      · rename_i h1
        split
        · rename_i h2
          exact fun _ => ⟨h2, by omega, by omega, rfl⟩
        · intro he; cases he
    obtain ⟨g3, g1, g2, e1⟩ := hn
    rw [e1, he] at c3 c4
    rw [e1] at c5
    obtain ⟨n, hnm, hM⟩ := numF_nm g3
    have c7 : ACall Try.prog 15 [.pv (.sl 1 (krows .u8 (bytesF M)))] [] (.tup [.pagg (msP M), .pv (.int .i64 0)]) [] [] := by
      refine get_c (bytesF M) (msP M) 0 (by omega) hl (Or.inr ⟨by rw [bytesF_len M hh]; omega, Or.inl ⟨rfl, ?_⟩⟩)
      have := msgOk_c M.hash M.body M.parts n hnm hh hhb hok.body (by omega) hok.part (bytesF M) (by omega) (by rw [← hM])
      rwa [← hM] at this
    generalize bytesF M = b at *
    generalize msP M = q at *
    simp
    refine CallG.go wakes_c ?_
    simp [hl]
    refine CallG.go c1 ?_
    simp [hl]
    refine CallG.go c2 ?_
    simp [hl]
    refine CallG.go c3 ?_
    simp [hl]
    refine CallG.go c4 ?_
    simp [hl]
    refine CallG.go c5 ?_
    simp [hl]
    refine CallG.go c6 ?_
    simp [hl]
    refine CallG.go c7 ?_
    simp [hl]
    refine CallG.go c6 ?_
    simp
  · generalize putF M = pr at *
    generalize msP M = q at *
    simp
    refine CallG.go wakes_c ?_
    simp [hl]
    refine CallG.go c1 ?_
    simp [hl]
    refine CallG.go c2 ?_
    simp [hl]
    refine CallG.go c3 ?_
    simp [hl]
    refine CallG.go c4 ?_
    simp [hl]
    refine CallG.go c5 ?_
    simp [hl]
    refine CallG.go c6 ?_
    simp [he]
theorem arg_msg2 {w : World} {c : Array Value} (h : Shp.Reads w shM c.toList) : ∃ M : Ms, ArgR w (.agg c) (.pagg (msP M)) ∧ M.hash.length = 32 ∧ ∀ x ∈ M.hash, x < 256 := by
  obtain ⟨ps, h1, h2, h3⟩ := pvs_of_reads rfl h
  obtain ⟨p, q, rfl, g1, g⟩ := ok_pair h2
  obtain ⟨q, r, rfl, g2, g⟩ := ok_pair g
  obtain ⟨r, t, rfl, g3, g⟩ := ok_pair g
  obtain ⟨t, u, rfl, g4, g⟩ := ok_pair g
  obtain ⟨u, x, rfl, g5, g⟩ := ok_pair g
  obtain ⟨x, y, rfl, g6, g⟩ := ok_pair g
  obtain ⟨y, z, rfl, g7, g⟩ := ok_pair g
  obtain ⟨z, z', rfl, g8, g9⟩ := ok_pair g
  obtain ⟨a, rfl⟩ := ok_int g1
  obtain ⟨b, rfl⟩ := ok_int g2
  obtain ⟨c', rfl⟩ := ok_int g3
  obtain ⟨d, rfl⟩ := ok_int g4
  obtain ⟨e, rfl⟩ := ok_int g5
  obtain ⟨hs, rfl, hl, hb⟩ := ok_arrn rfl g6
  obtain ⟨bo, rfl, _, _⟩ := ok_sln rfl g7
  obtain ⟨es, rfl, q1, q2⟩ := g8
  obtain ⟨T, rfl, _, _, _⟩ := trows_of (ps := es) fun p hp => ok_sln rfl (q2 p hp)
  rw [ok_unit g9] at h1
  refine ⟨⟨a, b, c', d, e, hs, bo, T⟩, ArgR.agg ?_, hl, hb⟩
  simpa [msP, Shp.size] using h1
theorem walkWirePuts (c0 : Array Value) (w : World) (k0 : Shp.Reads w shM c0.toList) :
     Calls Try.prog 4 #[.agg c0] w fun e w' => e = .returned (.bool true) ∧ Below w.heap.size w w' := by
  obtain ⟨M, q0, hh, hb⟩ := arg_msg2 k0
  refine lawCalls (lawPuts_c M hh hb) rfl fun i v av hv ha => ?_
  match i with
  | 0 => cases hv; cases ha; exact q0
  | n + 1 => simp at hv
end Go.Proofs.Ytekpgcohlpkmnaa
