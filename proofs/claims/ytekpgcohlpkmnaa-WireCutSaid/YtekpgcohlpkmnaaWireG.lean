/- The reader of messages: a whole message: what fits is read, what is cut off or has more gives up. No condition. -/
import Derived.Test.YtekpgcohlpkmnaaWireM
set_option linter.unusedVariables false
set_option linter.unusedSimpArgs false
namespace Go.Proofs.Ytekpgcohlpkmnaa
open Go.Abs Go.RowKit Go.Ours

/-- A message whose numbers are right. -/
structure Nm where
  kd : Nat
  sr : Nat
  vw : Nat
  rg : Nat
  st : Nat
structure Nm.Ok (n : Nm) : Prop where
  kd1 : 1 ≤ n.kd
  kd2 : n.kd ≤ 12
  sr : n.sr ≤ 15
  vw : n.vw ≤ 60
  rg : n.rg ≤ 40
  st : n.st ≤ 60
def msN (n : Nm) (H bo : List Nat) (P : List (List Nat)) : Ms := ⟨n.kd, n.sr, n.vw, n.rg, n.st, H, bo, P⟩
def zMs : List PV := [.int .i64 0, .int .i64 0, .int .i64 0, .int .i64 0, .int .i64 0, .int .u8 0, .int .u8 0, .int .u8 0, .int .u8 0, .int .u8 0, .int .u8 0, .int .u8 0, .int .u8 0, .int .u8 0, .int .u8 0, .int .u8 0, .int .u8 0, .int .u8 0, .int .u8 0, .int .u8 0, .int .u8 0, .int .u8 0, .int .u8 0, .int .u8 0, .int .u8 0, .int .u8 0, .int .u8 0, .int .u8 0, .int .u8 0, .int .u8 0, .int .u8 0, .int .u8 0, .int .u8 0, .int .u8 0, .int .u8 0, .int .u8 0, .int .u8 0, .sl 1 [], .sl 1 []]
theorem within_g (n b : Int) : ACall Try.prog 33 [.pv (.int .i64 n), .pv (.int .i64 b)] [] (.pv (.bool (decide (0 ≤ n) && decide (n ≤ b)))) [] [] := by
  refine ACall.fn (fn := Try.f33) rfl okWireWithin rfl (by simp) ?_
  simp only [argT, irWireWithin.eq_1]
  by_cases h : 0 ≤ n
  · by_cases h2 : n ≤ b <;> simp [h, h2]
  · simp [h]
def numF (M : Ms) : Bool := decide (1 ≤ M.kind) && decide (M.kind ≤ 12) && (decide (0 ≤ M.src) && decide (M.src ≤ 15)) && (decide (0 ≤ M.view) && decide (M.view ≤ 60)) && (decide (0 ≤ M.reg) && decide (M.reg ≤ 40)) && (decide (0 ≤ M.slot) && decide (M.slot ≤ 60))
theorem formed_c (M : Ms) (hh : M.hash.length = 32) : ACall Try.prog 22 [.pagg (msP M)] [] (.pv (.bool (numF M))) [] [] := by
  refine ACall.fn (fn := Try.f22) rfl okWireFormed rfl (by simp) ?_
  simp only [argT, irWireFormed.eq_1]
  have hl := msP_len M hh
  have h0 := msP_0 M
  have h1 := msP_1 M
  have h2 := msP_2 M
  have h3 := msP_3 M
  have h4 := msP_4 M
  unfold numF
  have w1 := within_g M.src 15
  have w2 := within_g M.view 60
  have w3 := within_g M.reg 40
  have w4 := within_g M.slot 60
  generalize (decide (0 ≤ M.src) && decide (M.src ≤ 15)) = x1 at *
  generalize (decide (0 ≤ M.view) && decide (M.view ≤ 60)) = x2 at *
  generalize (decide (0 ≤ M.reg) && decide (M.reg ≤ 40)) = x3 at *
  generalize (decide (0 ≤ M.slot) && decide (M.slot ≤ 60)) = x4 at *
  generalize msP M = q at *
  by_cases c0 : 1 ≤ M.kind
  · by_cases c1 : M.kind ≤ 12
    · simp [-getElem?_pos, hl, h0, h1, h2, h3, h4, c0, c1]
      refine CallG.go w1 ?_
      cases x1
      · simp
      · simp [-getElem?_pos, hl, h2]
        refine CallG.go w2 ?_
        cases x2
        · simp
        · simp [-getElem?_pos, hl, h3]
          refine CallG.go w3 ?_
          cases x3
          · simp
          · simp [-getElem?_pos, hl, h4]
            refine CallG.go w4 ?_
            cases x4 <;> simp
    · simp [-getElem?_pos, hl, h0, c0, c1]
  · simp [-getElem?_pos, hl, h0, c0]
theorem numF_ok {n : Nm} (h : n.Ok) (H bo : List Nat) (P : List (List Nat)) : numF (msN n H bo P) = true := by
  obtain ⟨a1, a2, a3, a4, a5, a6⟩ := h
  have e : numF (msN n H bo P) = (decide (1 ≤ (n.kd : Int)) && decide ((n.kd : Int) ≤ 12) && (decide (0 ≤ (n.sr : Int)) && decide ((n.sr : Int) ≤ 15)) && (decide (0 ≤ (n.vw : Int)) && decide ((n.vw : Int) ≤ 60)) && (decide (0 ≤ (n.rg : Int)) && decide ((n.rg : Int) ≤ 40)) && (decide (0 ≤ (n.st : Int)) && decide ((n.st : Int) ≤ 60))) := rfl
  rw [e]
  simp only [Bool.and_eq_true, decide_eq_true_eq]
  omega
theorem numF_nm {M : Ms} (h : numF M = true) : ∃ n : Nm, n.Ok ∧ M = msN n M.hash M.body M.parts := by
  obtain ⟨a, b, c, d, e, H, bo, P⟩ := M
  simp only [numF, Bool.and_eq_true, decide_eq_true_eq] at h
  refine ⟨⟨a.toNat, b.toNat, c.toNat, d.toNat, e.toNat⟩, ⟨?_, ?_, ?_, ?_, ?_, ?_⟩, ?_⟩ <;> simp only
  iterate 6 omega
  simp only [msN, Ms.mk.injEq, and_true]
  omega
theorem uw_small (n : Nat) (h : n < 256) : uw (n : Int) = n := by
  unfold uw
  omega
theorem headF_nm {n : Nm} (h : n.Ok) (H bo : List Nat) (P : List (List Nat)) : bytesF (msN n H bo P) = [n.kd] ++ ([n.sr] ++ ([0, n.vw] ++ ([0, n.rg] ++ ([0, n.st] ++ (H ++ (txt bo ++ (packed P.length ++ txts P))))))) := by
  obtain ⟨a1, a2, a3, a4, a5, a6⟩ := h
  simp only [bytesF, headF, msN]
  rw [uw_small _ (by omega), uw_small _ (by omega), uw_small _ (by omega), uw_small _ (by omega), uw_small _ (by omega)]
  rw [Nat.mod_eq_of_lt (by omega), Nat.mod_eq_of_lt (by omega), Nat.mod_eq_of_lt (a := n.vw) (by omega), Nat.mod_eq_of_lt (a := n.rg) (by omega), Nat.mod_eq_of_lt (a := n.st) (by omega)]
  rw [show n.vw / 256 = 0 by omega, show n.rg / 256 = 0 by omega, show n.st / 256 = 0 by omega]
  simp
theorem msP_set37 (M : Ms) (hh : M.hash.length = 32) (x : List Nat) : (msP M).set 37 (.sl 1 (krows .u8 x)) = msP { M with body := x } := by
  simp only [msP, List.set_cons_succ]
  rw [List.set_append_right _ _ (by rw [kns_length, hh]; omega), kns_length, hh]
  rfl
theorem msP_set38 (M : Ms) (hh : M.hash.length = 32) (x : List (List Nat)) : (msP M).set 38 (.sl 1 (trows x)) = msP { M with parts := x } := by
  simp only [msP, List.set_cons_succ]
  rw [List.set_append_right _ _ (by rw [kns_length, hh]; omega), kns_length, hh]
  rfl
theorem msgW (b H bo : List Nat) (P : List (List Nat)) (n : Nm) (hn : n.Ok) (hH : H.length = 32) (hHb : ∀ x ∈ H, x < 256) (hbo : bo.length ≤ 3000) (hP : P.length ≤ 16) (hPp : ∀ p ∈ P, p.length ≤ 3000) (hl : b.length ≤ 10000000000) (hpre : Pre b (bytesF (msN n H bo P))) (Q : Exit → S → Prop)
    (hF : b = bytesF (msN n H bo P) → ∀ a, Q .ret (mk [(0, .agg [.ptr 1000 0]), (2, .ptr 2 0), (3, .ptr 3 0), (51, a)] [(2, .pagg (msP (msN n H bo P))), (3, .pagg (msP (msN n H bo P))), (1000, .pagg (rdP b b.length))]))
    (hS : b.length < (bytesF (msN n H bo P)).length → ∀ s, Q (.panic (chE 1)) s)
    (hX : (bytesF (msN n H bo P)).length < b.length → ∀ s, Q (.panic (chE 2)) s) :
    iwp Try.prog irWireReaderMessage (mk [(0, .agg [.ptr 1000 0])] [(1000, .pagg (rdP b 0))]) (KK Try.prog [] Q) := by
  have hbf := headF_nm hn H bo P
  have hfm := formed_c (msN n H bo P) hH
  rw [numF_ok hn] at hfm
  have hms : (msN n H bo P).hash.length = 32 := hH
  have hqL := msP_len _ hms
  have hlf : (bytesF (msN n H bo P)).length = 40 + (txt bo).length + ((packed P.length).length + (txts P).length) := by
    rw [hbf]
    simp [hH]
    omega
  rw [hbf] at hpre
  obtain ⟨n1, n2, n3, n4, n5, n6⟩ := hn
  simp only [irWireReaderMessage.eq_1]
  generalize hq0 : rdP b 0 = q0
  simp
  refine CallG.go widths_c ?_
  simp
  rw [← hq0]
  clear hq0
  refine l1W b _ n.kd n.sr n.vw n.rg n.st (by omega) zMs zMs rfl hl hpre _ (fun k8 hp8 => ?_) (fun hs s => ?_)
  rotate_left
  · simp
    exact hS (by omega) _
  have e1 : (((((zMs.set 0 (.int .i64 (n.kd : Nat))).set 1 (.int .i64 (n.sr : Nat))).set 2 (.int .i64 (n.vw : Nat))).set 3 (.int .i64 (n.rg : Nat))).set 4 (.int .i64 (n.st : Nat))) = [.int .i64 (n.kd : Nat), .int .i64 (n.sr : Nat), .int .i64 (n.vw : Nat), .int .i64 (n.rg : Nat), .int .i64 (n.st : Nat)] ++ (List.replicate 32 (.int .u8 0) ++ [.sl 1 [], .sl 1 []]) := rfl
  rw [e1]
  generalize hq8 : rdP b 8 = q8
  generalize hZ : zMs = Z
  generalize hA : [PV.int .i64 (n.kd : Nat), .int .i64 (n.sr : Nat), .int .i64 (n.vw : Nat), .int .i64 (n.rg : Nat), .int .i64 (n.st : Nat)] ++ (List.replicate 32 (.int .u8 0) ++ [.sl 1 [], .sl 1 []]) = A
  simp
  subst hq8
  have hAl : A.length = 39 := by rw [← hA]; rfl
  refine l2W b _ Z hl H 0 8 A (by omega) hHb hAl k8 hp8 _ (fun k40 hp40 a c => ?_) (fun hs s => ?_)
  rotate_left
  · simp
    exact hS (by omega) _
  have e2 : setH A 0 H = msP (msN n H [] []) := by
    rw [← hA, setH_eq H _ _ _ 0 rfl (by rw [List.length_replicate, hH])]
    rfl
  rw [e2, hH]
  rw [hH] at k40 hp40
  have hZl : Z.length = 39 := by rw [← hZ]; rfl
  generalize hq40 : rdP b (8 + 32) = q40
  have hw := msP_set37 (msN n H [] []) hH bo
  have hw2 := msP_set38 (msN n H bo []) hH P
  have hq1 : (msP (msN n H [] [])).length = 39 := msP_len _ hH
  have hq2 : (msP (msN n H bo [])).length = 39 := msP_len _ hH
  have ee1 : ({ msN n H [] [] with body := bo } : Ms) = msN n H bo [] := rfl
  have ee2 : ({ msN n H bo [] with parts := P } : Ms) = msN n H bo P := rfl
  rw [ee1] at hw
  rw [ee2] at hw2
  generalize msP (msN n H [] []) = m1 at *
  generalize msP (msN n H bo []) = m2 at *
  generalize msP (msN n H bo P) = m3 at *
  simp
  subst hq40
  rcases Pre.field k40 hp40 with ⟨kt, et, hpt⟩ | ⟨kt, j, hj, et⟩
  rotate_left
  · have c := rtextS_c b bo (8 + 32) j hl (by omega) k40 hj et
    have h := hS (by omega)
    clear hF hS hX
    generalize rdP b (8 + 32) = q40 at *
    refine RegE.x ?_
    simp
    refine WX.here c ?_
    simp
    exact h _
  have ct := rtext_c b _ bo (8 + 32) hl (by omega) k40 et
  obtain ⟨k2, hk2⟩ : ∃ k2, k2 = 8 + 32 + (txt bo).length := ⟨_, rfl⟩
  rw [← hk2] at ct hpt kt
  generalize rdP b (8 + 32) = q40 at *
  generalize hq5 : rdP b k2 = q5
  rw [hq5] at ct
  refine RegE.n ?_
  simp
  refine CallG.go ct ?_
  simp [hq1, hw]
  subst hq5
  have hdl := List.length_drop (i := k2) (l := b)
  rcases hpt with ⟨r, ep⟩ | ⟨j, hj, ep⟩
  rotate_left
  · have c := partsS_c b P k2 j hl hP hPp kt hj ep
    have hlen := congrArg List.length ep
    rw [List.length_take] at hlen
    rw [List.length_append] at hj hlen
    have h := hS (by omega)
    clear hF hS hX
    generalize rdP b k2 = q40 at *
    refine RegE.x ?_
    simp
    refine WX.here c ?_
    simp
    exact h _
  have cp := parts_c b r P k2 hl hP hPp kt ep
  have hlen := congrArg List.length ep
  rw [List.length_append, List.length_append] at hlen
  obtain ⟨k3, hk3⟩ : ∃ k3, k3 = k2 + (packed P.length).length + (txts P).length := ⟨_, rfl⟩
  rw [← hk3] at cp
  have hk3l : k3 ≤ b.length := by omega
  generalize rdP b k2 = q40 at *
  generalize hq6 : rdP b k3 = q6
  rw [hq6] at cp
  refine RegE.n ?_
  simp
  refine CallG.go cp ?_
  simp [hq2, hw2]
  subst hq6
  by_cases h0 : k3 = b.length
  · have cd := done0_c b k3 hl h0
    have hb : b = bytesF (msN n H bo P) := by
      rw [hbf]
      rcases hpre with ⟨r', e⟩ | ⟨j, hj, e⟩
      · have hl2 := congrArg List.length e
        rw [List.length_append, ← hbf] at hl2
        have : r' = [] := List.eq_nil_of_length_eq_zero (by omega)
        rw [e, this, List.append_nil]
      · have hl2 := congrArg List.length e
        rw [List.length_take] at hl2
        rw [← hbf] at hj hl2
        omega
    have h := hF hb
    rw [← h0] at h
    clear hF hS hX
    generalize rdP b k3 = q6 at *
    refine RegE.n ?_
    simp
    refine CallG.go cd ?_
    simp
    refine CallG.go need0_c ?_
    simp [hqL]
    refine CallG.go hfm ?_
    simp [hqL, hZl]
    exact h _
  · have cd := done_c b k3 hl hk3l
    rw [if_pos (by omega)] at cd
    have h := hX (by omega)
    clear hF hS hX
    generalize rdP b k3 = q6 at *
    refine RegE.x ?_
    simp
    refine WX.go ?_
    simp
    refine CallG.go cd ?_
    simp
    refine WX.here (needX_c 2 (by decide)) ?_
    simp
    exact h _
theorem msgOk_c (H bo : List Nat) (P : List (List Nat)) (n : Nm) (hn : n.Ok) (hH : H.length = 32) (hHb : ∀ x ∈ H, x < 256) (hbo : bo.length ≤ 3000) (hP : P.length ≤ 16) (hPp : ∀ p ∈ P, p.length ≤ 3000) (b : List Nat) (hl : b.length ≤ 10000000000) (hb : b = bytesF (msN n H bo P)) :
    ACall Try.prog 31 [.agg [.ptr 1000 0]] [.pagg (rdP b 0)] (.pagg (msP (msN n H bo P))) [.pagg (rdP b b.length)] [] := by
  refine ACall.fn (fn := Try.f31) rfl okWireReaderMessage rfl (by simp) ?_
  have hqL := msP_len (msN n H bo P) hH
  refine msgW b H bo P n hn hH hHb hbo hP hPp hl (Or.inl ⟨[], by rw [hb, List.append_nil]⟩) _ (fun _ a => ?_) (fun h => ?_) fun h => ?_
  · generalize msP (msN n H bo P) = m at *
    simp [hqL]
  · rw [hb] at h; omega
  · rw [hb] at h; omega
theorem msgS_c (H bo : List Nat) (P : List (List Nat)) (n : Nm) (hn : n.Ok) (hH : H.length = 32) (hHb : ∀ x ∈ H, x < 256) (hbo : bo.length ≤ 3000) (hP : P.length ≤ 16) (hPp : ∀ p ∈ P, p.length ≤ 3000) (b : List Nat) (hl : b.length ≤ 10000000000) (j : Nat) (hj : j < (bytesF (msN n H bo P)).length) (hb : b = (bytesF (msN n H bo P)).take j) :
    APan Try.prog 31 [.agg [.ptr 1000 0]] [.pagg (rdP b 0)] (chE 1) := by
  refine APan.fn (fn := Try.f31) rfl okWireReaderMessage rfl ?_
  refine msgW b H bo P n hn hH hHb hbo hP hPp hl (Or.inr ⟨j, hj, hb⟩) _ (fun h a => ?_) (fun h s => rfl) fun h => ?_
  · rw [h] at hb
    have := congrArg List.length hb
    rw [List.length_take] at this
    omega
  · have := congrArg List.length hb
    rw [List.length_take] at this
    omega
theorem msgX_c (H bo : List Nat) (P : List (List Nat)) (n : Nm) (hn : n.Ok) (hH : H.length = 32) (hHb : ∀ x ∈ H, x < 256) (hbo : bo.length ≤ 3000) (hP : P.length ≤ 16) (hPp : ∀ p ∈ P, p.length ≤ 3000) (b r : List Nat) (hl : b.length ≤ 10000000000) (hr : 0 < r.length) (hb : b = bytesF (msN n H bo P) ++ r) :
    APan Try.prog 31 [.agg [.ptr 1000 0]] [.pagg (rdP b 0)] (chE 2) := by
  refine APan.fn (fn := Try.f31) rfl okWireReaderMessage rfl ?_
  have hl2 := congrArg List.length hb
  rw [List.length_append] at hl2
  refine msgW b H bo P n hn hH hHb hbo hP hPp hl (Or.inl ⟨r, hb⟩) _ (fun h a => ?_) (fun h s => ?_) fun h s => rfl
  · rw [h] at hl2; omega
  · omega
end Go.Proofs.Ytekpgcohlpkmnaa
