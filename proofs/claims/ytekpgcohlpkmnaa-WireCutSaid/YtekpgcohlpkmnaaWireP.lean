/- The reader of messages: its texts and parts: what fits is read, what is cut off gives up: contracts. No condition. -/
import Derived.Test.YtekpgcohlpkmnaaWireR
set_option linter.unusedVariables false
set_option linter.unusedSimpArgs false
namespace Go.Proofs.Ytekpgcohlpkmnaa
open Go.Abs Go.RowKit Go.Ours

/-- Bytes that go on behind others, or are cut off of them. -/
def Pre (cs fs : List Nat) : Prop := (∃ r, cs = fs ++ r) ∨ ∃ j, j < fs.length ∧ cs = fs.take j
theorem Pre.split {cs s t : List Nat} (h : Pre cs (s ++ t)) : (∃ d, cs = s ++ d ∧ Pre d t) ∨ ∃ j, j < s.length ∧ cs = s.take j := by
  rcases h with ⟨r, rfl⟩ | ⟨j, hj, rfl⟩
  · exact Or.inl ⟨t ++ r, by rw [List.append_assoc], Or.inl ⟨r, rfl⟩⟩
  · by_cases h : j < s.length
    · exact Or.inr ⟨j, h, List.take_append_of_le_length (by omega)⟩
    · refine Or.inl ⟨t.take (j - s.length), ?_, Or.inr ⟨j - s.length, ?_, rfl⟩⟩
      · rw [List.take_append, List.take_of_length_le (by omega)]
      · rw [List.length_append] at hj; omega
theorem rtext_c (b r t : List Nat) (k : Nat) (hl : b.length ≤ 10000000000) (hy : t.length ≤ 65536) (hk : k ≤ b.length) (hd : b.drop k = txt t ++ r) : ACall Try.prog 37 [.agg [.ptr 1000 0]] [.pagg (rdP b k)] (.pv (.sl 1 (krows .u8 t))) [.pagg (rdP b (k + (txt t).length))] [] := by
  refine ACall.fn (fn := Try.f37) rfl okWireReaderText rfl (by simp) ?_
  simp only [argT, irWireReaderText.eq_1]
  have c : ACall Try.prog 42 [.ptr 1000 0, .pv (.int .i64 65536)] [.pagg (rdP b k)] (.tup [.os 5 1 (krows .u8 t), .pv (.int .i64 0)]) [.pagg (rdP b (k + (txt t).length))] [] := textAt_c b r t k 65536 hl (by decide) hy hk hd
  generalize rdP b k = q at *
  generalize rdP b (k + (txt t).length) = q2 at *
  simp
  refine CallG.go c ?_
  simp
  refine RegE.n ?_
  simp
  refine CallG.go need0_c ?_
  simp
theorem rtextS_c (b t : List Nat) (k j : Nat) (hl : b.length ≤ 10000000000) (hy : t.length ≤ 65536) (hk : k ≤ b.length) (hj : j < (txt t).length) (hd : b.drop k = (txt t).take j) : APan Try.prog 37 [.agg [.ptr 1000 0]] [.pagg (rdP b k)] (chE 1) := by
  refine APan.fn (fn := Try.f37) rfl okWireReaderText rfl ?_
  simp only [argT, irWireReaderText.eq_1]
  have c : ACall Try.prog 42 [.ptr 1000 0, .pv (.int .i64 65536)] [.pagg (rdP b k)] (.tup [.os 5 1 [], .pv (.int .i64 1)]) [.pagg (rdP b k)] [] := by
    have hpl := packed_len64 t.length (by omega)
    by_cases h : j < (packed t.length).length
    · have e : b.drop k = (packed t.length).take j := by rw [hd, txt, List.take_append_of_le_length (by omega)]
      exact textS1_c b k 65536 hl hk (by rw [e]; exact packed_bigs _ j h) (by rw [e, List.length_take]; omega)
    · have e : b.drop k = packed t.length ++ t.take (j - (packed t.length).length) := by rw [hd, txt, List.take_append, List.take_of_length_le (by omega)]
      refine textS2_c b _ k t.length 65536 hl (by decide) hy hk e ?_
      rw [txt, List.length_append] at hj
      rw [List.length_take]
      omega
  generalize rdP b k = q at *
  simp
  refine CallG.go c ?_
  simp
  refine RegE.x ?_
  simp
  refine WX.here (needX_c 1 (by decide)) ?_
  simp
theorem trows_app (P : List (List Nat)) (t : List Nat) : trows P ++ [[PV.sl 1 (krows .u8 t)]] = trows (P ++ [t]) := by simp [trows]
theorem ptl (b : List Nat) (P : List (List Nat)) (hl : b.length ≤ 10000000000) (hP : P.length ≤ 16) (hp : ∀ p ∈ P, p.length ≤ 3000) : ∀ (T : List (List Nat)) (i k : Nat), P.drop i = T → i ≤ P.length → k ≤ b.length → Pre (b.drop k) (txts T) → ∀ (Q : Exit → S → Prop),
   (∀ r, b.drop k = txts T ++ r → ∀ a c, Q (.exit 0) (mk [(0, .agg [.ptr 1000 0]), (1, .ptr 1 0), (5, .os 24 1 (trows P)), (14, a), (15, c), (16, .pv (.bool false))] [(1, .agg [.ptr 1000 0]), (1000, .pagg (rdP b (k + (txts T).length)))])) →
   (b.length < k + (txts T).length → ∀ s, Q (.panic (chE 1)) s) →
   LoopW Try.prog [0, 1, 5, 14, 15] [1, 1000] irWireReaderParts_L1 (mk [(0, .agg [.ptr 1000 0]), (1, .ptr 1 0), (5, .os 24 1 (trows (P.take i))), (14, .pv (.int .i64 (P.length : Nat))), (15, .pv (.int .i64 (i : Nat)))] [(1, .agg [.ptr 1000 0]), (1000, .pagg (rdP b k))]) Q := by
  intro T
  induction T with
  | nil =>
    intro i k hd hi hk hpre Q h1 h2
    have hi2 : i = P.length := by
      have := congrArg List.length hd
      simp at this
      omega
    subst hi2
    have h1' := h1 (b.drop k) rfl
    clear h1
    rw [txts, List.length_nil, Nat.add_zero] at h1'
    generalize rdP b k = q at *
    rw [List.take_length]
    refine LoopW.go irWireReaderParts_L1.eq_1 (by simp) ?_
    simp
    exact h1' _ _
  | cons t T ih =>
    intro i k hd hi hk hpre Q h1 h2
    have hlt : i < P.length := by
      have := congrArg List.length hd
      simp at this
      omega
    have hx : P[i]? = some t := by
      have := congrArg (·[0]?) hd
      simpa using this
    have hd' : P.drop (i + 1) = T := by
      have := congrArg (List.drop 1) hd
      simpa [List.drop_drop, Nat.add_comm] using this
    have ht := hp t (List.mem_of_getElem? hx)
    have i1 : (i : Int) < (P.length : Int) := by omega
    have wi : IntKind.i64.wrap ((i : Int) + 1) = (i + 1 : Nat) := by rw [wrap_i64] <;> omega
    have htk : P.take (i + 1) = P.take i ++ [t] := by rw [List.take_add_one, hx]; rfl
    have htl : (P.take i).length ≤ 16 := by rw [List.length_take]; omega
    rw [txts] at hpre
    have hlen := List.length_drop (i := k) (l := b)
    rcases hpre.split with ⟨d, e, hpre'⟩ | ⟨j, hj, e⟩
    · have c := rtext_c b d t k hl (by omega) hk e
      have hlen2 := congrArg List.length e
      rw [List.length_append] at hlen2
      have ed : b.drop (k + (txt t).length) = d := by rw [← List.drop_drop, e, List.drop_left]
      have hn := ih (i + 1) (k + (txt t).length) hd' (by omega) (by omega) (by rw [ed]; exact hpre') Q (fun r hr => by
        have := h1 r (by rw [e, ← ed, hr, txts, List.append_assoc])
        rwa [txts, List.length_append, ← Nat.add_assoc] at this) (fun hh => h2 (by rw [txts, List.length_append]; omega))
      clear h1 h2 ih
      rw [htk, ← trows_app] at hn
      generalize rdP b k = q at *
      generalize rdP b (k + (txt t).length) = q2 at *
      refine LoopW.go irWireReaderParts_L1.eq_1 (by simp) ?_
      simp [i1, hlt]
      refine RegE.n ?_
      simp
      refine CallG.go c ?_
      simp [wi, trows_length]
      exact ⟨by omega, hn⟩
    · have c := rtextS_c b t k j hl (by omega) hk hj e
      have hlen2 := congrArg List.length e
      rw [List.length_take] at hlen2
      have h2' := h2 (by rw [txts, List.length_append]; omega)
      clear h1 h2 ih
      generalize rdP b k = q at *
      refine LoopW.go irWireReaderParts_L1.eq_1 (by simp) ?_
      simp [i1, hlt]
      refine RegE.x ?_
      simp
      refine WX.here c ?_
      simp
      exact h2' _
theorem parts_c (b r : List Nat) (P : List (List Nat)) (k : Nat) (hl : b.length ≤ 10000000000) (hP : P.length ≤ 16) (hp : ∀ p ∈ P, p.length ≤ 3000) (hk : k ≤ b.length) (hd : b.drop k = packed P.length ++ txts P ++ r) : ACall Try.prog 38 [.agg [.ptr 1000 0]] [.pagg (rdP b k)] (.os 24 1 (trows P)) [.pagg (rdP b (k + (packed P.length).length + (txts P).length))] [] := by
  refine ACall.fn (fn := Try.f38) rfl okWireReaderParts rfl (by simp) ?_
  simp only [argT, irWireReaderParts.eq_1]
  have c : ACall Try.prog 43 [.ptr 1000 0, .pv (.int .i64 16)] [.pagg (rdP b k)] (.tup [.pv (.int .i64 (P.length : Nat)), .pv (.int .i64 0)]) [.pagg (rdP b (k + (packed P.length).length))] [] := countAt_c b (txts P ++ r) k P.length 16 hl (by decide) hP (by rw [hd, List.append_assoc])
  have hlen := congrArg List.length hd
  rw [List.length_drop, List.length_append, List.length_append] at hlen
  have e : b.drop (k + (packed P.length).length) = txts P ++ r := by rw [← List.drop_drop, hd, List.append_assoc, List.drop_left]
  have hlp := ptl b P hl hP hp P 0 (k + (packed P.length).length) rfl (by omega) (by omega) (by rw [e]; exact Or.inl ⟨r, rfl⟩)
  obtain ⟨k2, hk2⟩ : ∃ k2, k2 = k + (packed P.length).length := ⟨_, rfl⟩
  rw [← hk2] at c hlp e
  rw [← hk2]
  generalize rdP b k = q at *
  generalize rdP b (k2 + (txts P).length) = q3 at *
  generalize rdP b k2 = q2 at *
  simp
  refine CallG.go c ?_
  simp
  refine RegE.n ?_
  simp
  refine CallG.go need0_c ?_
  simp
  refine hlp _ (fun r hr a c => ?_) (fun hh => ?_)
  · simp
  · omega
theorem partsS_c (b : List Nat) (P : List (List Nat)) (k j : Nat) (hl : b.length ≤ 10000000000) (hP : P.length ≤ 16) (hp : ∀ p ∈ P, p.length ≤ 3000) (hk : k ≤ b.length) (hj : j < (packed P.length ++ txts P).length) (hd : b.drop k = (packed P.length ++ txts P).take j) : APan Try.prog 38 [.agg [.ptr 1000 0]] [.pagg (rdP b k)] (chE 1) := by
  refine APan.fn (fn := Try.f38) rfl okWireReaderParts rfl ?_
  simp only [argT, irWireReaderParts.eq_1]
  have hpl := packed_len64 P.length (by omega)
  have hlen := congrArg List.length hd
  rw [List.length_drop, List.length_take] at hlen
  rcases Pre.split (cs := b.drop k) (s := packed P.length) (t := txts P) (Or.inr ⟨j, hj, hd⟩) with ⟨d, e, hpre⟩ | ⟨i, hi, e⟩
  · have c : ACall Try.prog 43 [.ptr 1000 0, .pv (.int .i64 16)] [.pagg (rdP b k)] (.tup [.pv (.int .i64 (P.length : Nat)), .pv (.int .i64 0)]) [.pagg (rdP b (k + (packed P.length).length))] [] := countAt_c b d k P.length 16 hl (by decide) hP e
    have ed : b.drop (k + (packed P.length).length) = d := by rw [← List.drop_drop, e, List.drop_left]
    have hlen2 := congrArg List.length e
    rw [List.length_drop, List.length_append] at hlen2
    rw [List.length_append] at hj hlen
    have hlp := ptl b P hl hP hp P 0 (k + (packed P.length).length) rfl (by omega) (by omega) (by rw [ed]; exact hpre)
    obtain ⟨k2, hk2⟩ : ∃ k2, k2 = k + (packed P.length).length := ⟨_, rfl⟩
    have hs : b.length < k2 + (txts P).length := by omega
    rw [← hk2] at c hlp ed
    have hq3 : rdP b (k2 + (txts P).length) = rdP b (k2 + (txts P).length) := rfl
    generalize rdP b k = q at *
    generalize rdP b (k2 + (txts P).length) = q3 at *
    generalize rdP b k2 = q2 at *
    simp
    refine CallG.go c ?_
    simp
    refine RegE.n ?_
    simp
    refine CallG.go need0_c ?_
    simp
    refine hlp _ (fun r hr a c => ?_) (fun hh s => ?_)
    · have := congrArg List.length hr
      rw [List.length_drop, List.length_append] at this
      omega
    · simp
  · have c : ACall Try.prog 43 [.ptr 1000 0, .pv (.int .i64 16)] [.pagg (rdP b k)] (.tup [.pv (.int .i64 0), .pv (.int .i64 1)]) [.pagg (rdP b k)] [] := countS_c b k 16 hl hk (by rw [e]; exact packed_bigs _ i hi) (by rw [e, List.length_take]; omega)
    generalize rdP b k = q at *
    simp
    refine CallG.go c ?_
    simp
    refine RegE.x ?_
    simp
    refine WX.here (needX_c 1 (by decide)) ?_
    simp
end Go.Proofs.Ytekpgcohlpkmnaa
