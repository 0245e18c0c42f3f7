/- The law WireCut. No condition. -/
import Derived.Test.YtekpgcohlpkmnaaWirePutsW
set_option linter.unusedVariables false
set_option linter.unusedSimpArgs false
namespace Go.Proofs.Ytekpgcohlpkmnaa
open Go.Abs Go.RowKit Go.Ours

theorem lawCut_c (M : Ms) (n y : Nat) (hh : M.hash.length = 32) (hhb : ∀ x ∈ M.hash, x < 256) (hn : n < 65536) (hy : y < 256) : ACall Try.prog 5 [.pagg (msP M), .pv (.int .u16 (n : Nat)), .pv (.int .u8 (y : Nat))] [] (.pv (.bool true)) [] [] := by
  refine ACall.fn (fn := Try.f5) rfl okLaw08WireCut rfl (by simp) ?_
  simp only [argT, irLaw08WireCut.eq_1]
  have hl := msP_len M hh
  have c1 := long_c M hh
  cases hlong : longF M
  rotate_left
  · rw [hlong] at c1
    generalize msP M = q at *
    simp
    refine CallG.go wakes_c ?_
    simp [hl]
    refine CallG.go c1 ?_
    simp
  rw [hlong] at c1
  have hok := ok_of hh hlong
  have c3 := put_c M hok
  have hbl := bytesF_le hok
  by_cases he : (putF M).2 = 0
  · have hn2 : numF M = true ∧ ¬ 16 < M.parts.length ∧ ¬ 65504 < sizeF M ∧ (putF M).1 = bytesF M := by
      revert he
      unfold putF
      split
      · intro he; cases he
      · rename_i h1
        split
        · rename_i h2
          exact fun _ => ⟨h2, by omega, by omega, rfl⟩
        · intro he; cases he
    obtain ⟨g3, g1, g2, e1⟩ := hn2
    rw [e1, he] at c3
    obtain ⟨nm, hnm, hM⟩ := numF_nm g3
    have hbs := bytesF_len M hh
    have hb40 : 40 ≤ (bytesF M).length := by rw [hbs]; unfold sizeF; omega
    obtain ⟨j, hj⟩ : ∃ j, j = n % (bytesF M).length := ⟨_, rfl⟩
    have hjl : j < (bytesF M).length := by rw [hj]; exact Nat.mod_lt _ (by omega)
    have c7 : ACall Try.prog 15 [.pv (.sl 1 (krows .u8 ((bytesF M).take j)))] [] (.tup [.pagg zMs, .pv (.int .i64 1)]) [] [] := by
      have hle : ((bytesF M).take j).length ≤ 65504 := by rw [List.length_take]; omega
      refine get_c _ zMs 1 (by omega) rfl (Or.inr ⟨hle, Or.inr ⟨rfl, ?_⟩⟩)
      exact msgS_c M.hash M.body M.parts nm hnm hh hhb hok.body (by omega) hok.part _ (by omega) j (by rw [← hM]; exact hjl) (by rw [← hM])
    have c8 : ∃ e : Int, (e = 2 ∨ e = 4) ∧ ACall Try.prog 15 [.pv (.sl 1 (krows .u8 (bytesF M ++ [y])))] [] (.tup [.pagg zMs, .pv (.int .i64 e)]) [] [] := by
      by_cases hb : 65504 < (bytesF M ++ [y]).length
      · exact ⟨4, Or.inr rfl, get_c _ zMs 4 (by simp; omega) rfl (Or.inl ⟨hb, rfl, rfl⟩)⟩
      · refine ⟨2, Or.inl rfl, get_c _ zMs 2 (by omega) rfl (Or.inr ⟨by omega, Or.inr ⟨rfl, ?_⟩⟩)⟩
        exact msgX_c M.hash M.body M.parts nm hnm hh hhb hok.body (by omega) hok.part _ [y] (by omega) (by simp) (by rw [← hM])
    obtain ⟨e, hee, c8⟩ := c8
    have hz : zMs.length = 39 := rfl
    have w1 : IntKind.i64.wrap (n : Int) = (n : Int) := by rw [wrap_i64] <;> omega
    have t1 : (n : Int).tmod ((bytesF M).length : Int) = (j : Int) := by rw [hj]; rfl
    have w2 : IntKind.i64.wrap (j : Int) = (j : Int) := by rw [wrap_i64] <;> omega
    have i1 : ¬ (bytesF M).length = 0 := by omega
    have i2 : j ≤ (bytesF M).length := by omega
    have i2' : (j : Int) ≤ ((bytesF M).length : Int) := by omega
    have hap : krows .u8 (bytesF M) ++ [[PV.int .u8 (y : Int)]] = krows .u8 (bytesF M ++ [y]) := by
      rw [← krows_app]
      rfl
    have hbn : ¬ bytesF M = [] := fun h => by rw [h] at hb40; simp at hb40
    have hle : (bytesF M).length ≤ 65504 := by omega
    clear hM hbs
    generalize bytesF M = b at *
    generalize zMs = Z at *
    generalize msP M = q at *
    simp
    refine CallG.go wakes_c ?_
    simp [hl]
    refine CallG.go c1 ?_
    simp [hl]
    refine CallG.go c3 ?_
    simp [hl, krows_length, w1, w2, t1, i1, i2, i2', krows_take, hbn]
    refine CallG.go c7 ?_
    simp [hl, krows_length, hz, hap]
    refine ⟨by omega, by omega, CallG.go c8 ?_⟩
    rcases hee with rfl | rfl <;> simp [hz]
  · have hnil : (putF M).1 = [] := by
      revert he
      unfold putF
      split
      · intro _; rfl
      · split
        · intro he; exact absurd rfl he
        · intro _; rfl
    rw [hnil] at c3
    generalize putF M = pr at *
    generalize msP M = q at *
    simp
    refine CallG.go wakes_c ?_
    simp [hl]
    refine CallG.go c1 ?_
    simp [hl]
    refine CallG.go c3 ?_
    simp [he, krows_length]
theorem walkWireCut (c0 : Array Value) (a1 : Int) (a2 : Int) (w : World) (k0 : Shp.Reads w shM c0.toList) (w1 : (Lit.int .u16 a1).wf = true) (w2 : (Lit.int .u8 a2).wf = true) :
     Calls Try.prog 5 #[.agg c0, .int .u16 a1, .int .u8 a2] w fun e w' => e = .returned (.bool true) ∧ Below w.heap.size w w' := by
  obtain ⟨M, q0, hh, hb⟩ := arg_msg2 k0
  obtain ⟨n, rfl, hn⟩ := wf_n (k := .u16) rfl w1
  obtain ⟨y, rfl, hy⟩ := wf_n (k := .u8) rfl w2
  refine lawCalls (lawCut_c M n y hh hb hn hy) rfl fun i v av hv ha => ?_
  match i with
  | 0 => cases hv; cases ha; exact q0
  | 1 => cases hv; cases ha; exact arg_int _ _
  | 2 => cases hv; cases ha; exact arg_int _ _
  | n + 3 => simp at hv
end Go.Proofs.Ytekpgcohlpkmnaa
