/- sha.Sum's contract. -/
import Derived.Test.YtlbfpnckoblppaaShaI
set_option linter.unusedVariables false
set_option linter.unusedSimpArgs false
namespace Go.Proofs.Ytlbfpnckoblppaa
open Go.Abs Go.RowKit Go.Ours

theorem fx_lt (n x : Nat) : ∀ y ∈ fx n x, y < 256 := by
  intro y hy
  simp only [fx, List.mem_map] at hy
  obtain ⟨i, _, rfl⟩ := hy
  omega
theorem pad_lt (t : List Nat) (n : Nat) (hb : ∀ x ∈ t, x < 256) : ∀ y ∈ pad t n, y < 256 := by
  intro y hy
  simp only [pad, List.mem_append, List.mem_singleton, List.mem_replicate] at hy
  rcases hy with ((hy | rfl) | ⟨_, rfl⟩) | hy
  · exact hb y hy
  · decide
  · decide
  · exact fx_lt _ _ y hy
theorem sum_c (t : List Nat) (ht : t.length < 1000000000) (hb : ∀ x ∈ t, x < 256) : ACall Try.prog 47 [.pv (.sl 1 (krows .u8 t))] [] (.pagg (kns .u8 (shaF t))) [] [] := by
  refine ACall.fn (fn := Try.f47) rfl okShaSum rfl (by simp) ?_
  simp only [argT, irShaSum.eq_1]
  obtain ⟨n, hn⟩ : ∃ n, n = t.length / 64 := ⟨_, rfl⟩
  have hs0 : s0W.length = 8 := rfl
  have hsp := shaF_split (t.take (64 * n)) (t.drop (64 * n)) n (by rw [List.length_take]; omega)
  rw [List.take_append_drop] at hsp
  have hpad := padded_c (t.drop (64 * n)) t.length (by rw [List.length_drop]; omega) (by omega)
  have hplt := pad_lt (t.drop (64 * n)) t.length (fun x hx => hb x (List.mem_of_mem_drop hx))
  have hpl := pad_len (t.drop (64 * n)) t.length
  have hpl2 : (pad (t.drop (64 * n)) t.length).length < 1000000000000 := by
    simp [pad, fx_len, padz]; omega
  have hrun : run n s0W (t.take (64 * n)) = run n s0W t := by
    have := run_add n 0 s0W (t.take (64 * n)) (t.drop (64 * n)) (by rw [List.length_take]; omega)
    rw [List.take_append_drop] at this
    simpa [run] using this.symm
  rw [hrun] at hsp
  generalize pad (t.drop (64 * n)) t.length = p at *
  simp [-List.reduceReplicate]
  refine CallG.go start_c ?_
  simp [-List.reduceReplicate]
  refine CallG.go rounds_c ?_
  simp [-List.reduceReplicate, kis_length, hs0, krows_length]
  refine sl1 _ _ n t s0W hs0 hn.symm ht hb _ fun a b => ?_
  have hr := run_len n s0W t hs0
  simp [-List.reduceReplicate]
  refine CallG.go hpad ?_
  simp [-List.reduceReplicate]
  refine sl2 _ (p.length / 64) p _ _ (Or.inr rfl) hr (by omega) hpl2 hplt _ fun a b c => ?_
  have hr2 := run_len (p.length / 64) _ p hr
  have htd := told_c _ hr2
  rw [← hsp] at htd
  simp [-List.reduceReplicate, kis_length, hr2]
  refine CallG.go htd ?_
  have hl32 : (shaF t).length = 32 := by
    obtain ⟨a, b, c, d, e, f, g, h, e1⟩ := len8 hr2
    rw [hsp, e1]; rfl
  simp [-List.reduceReplicate, kns_length, hl32]
end Go.Proofs.Ytlbfpnckoblppaa
