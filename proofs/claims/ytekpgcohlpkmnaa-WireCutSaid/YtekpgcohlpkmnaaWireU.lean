/- wire.Put of any message; the document's Put, Numbers, Copied, Same: contracts. No condition. -/
import Derived.Test.YtekpgcohlpkmnaaWireG
set_option linter.unusedVariables false
set_option linter.unusedSimpArgs false
namespace Go.Proofs.Ytekpgcohlpkmnaa
open Go.Abs Go.RowKit Go.Ours

theorem kns_r1 (k : IntKind) (l : List Nat) : (kns k l).map (fun p => [p]) = krows k l := by simp [kns, krows, Function.comp_def]
theorem pul (P : List (List Nat)) (hP : P.length ≤ 20) (hp : ∀ p ∈ P, p.length ≤ 3000) : ∀ (T : List (List Nat)) (k : Nat) (b : List Nat), P.drop k = T → k ≤ P.length → b.length ≤ 100000 + 3010 * k → ∀ (Q : Exit → S → Prop),
   (∀ x a c, Q (.exit 3) (mk [(4, .os 5 1 (krows .u8 (b ++ txts T))), (62, x), (63, a), (64, c), (65, .pv (.bool false))] [])) →
   LoopW Try.prog [4, 62, 63, 64] [] irWirePut_L2 (mk [(4, .os 5 1 (krows .u8 b)), (62, .pv (.sl 1 (trows P))), (63, .pv (.int .i64 (P.length : Nat))), (64, .pv (.int .i64 (k : Nat)))] []) Q := by
  intro T
  induction T with
  | nil =>
    intro k b hd hk hb Q hQ
    have hk2 : k = P.length := by
      have := congrArg List.length hd
      simp at this
      omega
    subst hk2
    rw [txts, List.append_nil] at hQ
    refine LoopW.go irWirePut_L2.eq_1 (by simp) ?_
    simp
    exact hQ _ _ _
  | cons t T ih =>
    intro k b hd hk hb Q hQ
    have hlt : k < P.length := by
      have := congrArg List.length hd
      simp at this
      omega
    have hx : P[k]? = some t := by
      have := congrArg (·[0]?) hd
      simpa using this
    have hd' : P.drop (k + 1) = T := by
      have := congrArg (List.drop 1) hd
      simpa [List.drop_drop, Nat.add_comm] using this
    have ht := hp t (List.mem_of_getElem? hx)
    have i1 : (k : Int) < (P.length : Int) := by omega
    have wk : IntKind.i64.wrap ((k : Int) + 1) = (k + 1 : Nat) := by rw [wrap_i64] <;> omega
    have hl := txt_len t ht
    have c := putText_c b t (by omega) (by omega)
    have hn := ih (k + 1) (b ++ txt t) hd' (by omega) (by simp; omega) Q (by simpa [txts, List.append_assoc] using hQ)
    clear hQ
    generalize b ++ txt t = y at *
    refine LoopW.go irWirePut_L2.eq_1 (by simp) ?_
    simp [-getElem?_pos, i1, hlt, trows_length, trows_get, hx]
    refine CallG.go c ?_
    simp [wk]
    exact hn
def putF (M : Ms) : List Nat × Int := if 16 < M.parts.length ∨ 65504 < sizeF M then ([], 4) else if numF M = true then (bytesF M, 0) else ([], 15)
theorem put_c (M : Ms) (h : M.Ok) : ACall Try.prog 11 [.pagg (msP M)] [] (.tup [.os 5 1 (krows .u8 (putF M).1), .pv (.int .i64 (putF M).2)]) [] [] := by
  refine ACall.fn (fn := Try.f11) rfl okWirePut rfl (by simp) ?_
  simp only [argT, irWirePut.eq_1]
  have hl := msP_len M h.hash
  have h0 := msP_0 M
  have h1 := msP_1 M
  have h2 := msP_2 M
  have h3 := msP_3 M
  have h4 := msP_4 M
  have h5 := msP_h M h.hash
  have h37 := msP_37 M h.hash
  have h38 := msP_38 M h.hash
  have s0 := size_c M h
  have f0 := formed_c M h.hash
  unfold putF
  by_cases g1 : 16 < M.parts.length
  · have g1' : (16 : Int) < (M.parts.length : Int) := by omega
    generalize msP M = q at *
    simp [-getElem?_pos, -List.reduceReplicate, hl, h38, trows_length, g1, g1']
    rfl
  have g1' : ¬ (16 : Int) < (M.parts.length : Int) := by omega
  by_cases g2 : 65504 < sizeF M
  · have g2' : (65504 : Int) < (sizeF M : Int) := by omega
    generalize msP M = q at *
    generalize sizeF M = z at *
    simp [-getElem?_pos, -List.reduceReplicate, hl, h38, trows_length, g1, g1']
    refine CallG.go s0 ?_
    simp [-getElem?_pos, -List.reduceReplicate, g2, g2']
    rfl
  have g2' : ¬ (65504 : Int) < (sizeF M : Int) := by omega
  have g12 : ¬ (16 < M.parts.length ∨ 65504 < sizeF M) := by omega
  rw [if_neg g12]
  cases g3 : numF M
  · rw [g3] at f0
    generalize msP M = q at *
    generalize sizeF M = z at *
    simp [-getElem?_pos, -List.reduceReplicate, hl, h38, trows_length, g1, g1']
    refine CallG.go s0 ?_
    simp [-getElem?_pos, -List.reduceReplicate, g2, g2', hl]
    refine CallG.go f0 ?_
    simp
    rfl
  rw [g3] at f0
  obtain ⟨n, hn, hM⟩ := numF_nm g3
  have hbf := headF_nm hn M.hash M.body M.parts
  rw [← hM] at hbf
  rw [if_pos rfl, hbf]
  obtain ⟨n1, n2, n3, n4, n5, n6⟩ := hn
  have k0 : M.kind = (n.kd : Nat) := by rw [hM]; rfl
  have k1 : M.src = (n.sr : Nat) := by rw [hM]; rfl
  have k2 : M.view = (n.vw : Nat) := by rw [hM]; rfl
  have k3 : M.reg = (n.rg : Nat) := by rw [hM]; rfl
  have k4 : M.slot = (n.st : Nat) := by rw [hM]; rfl
  rw [k0] at h0
  rw [k1] at h1
  rw [k2] at h2
  rw [k3] at h3
  rw [k4] at h4
  have uws : ∀ x : Nat, x < 256 → IntKind.u64.wrap (x : Int) = (x : Int) := fun x hx => by simp [IntKind.wrap, IntKind.bits, IntKind.signed]; omega
  have u0 := uws n.kd (by omega)
  have u1 := uws n.sr (by omega)
  have u2 := uws n.vw (by omega)
  have u3 := uws n.rg (by omega)
  have u4 := uws n.st (by omega)
  have p0 := put1_c [] n.kd (by simp)
  rw [Nat.mod_eq_of_lt (by omega : n.kd < 256), List.nil_append] at p0
  have p1 := put1_c [n.kd] n.sr (by simp)
  rw [Nat.mod_eq_of_lt (by omega : n.sr < 256)] at p1
  have p2 := put2_c ([n.kd] ++ [n.sr]) n.vw (by simp)
  rw [Nat.mod_eq_of_lt (by omega : n.vw < 256), show n.vw / 256 % 256 = 0 by omega] at p2
  have p3 := put2_c ([n.kd] ++ [n.sr] ++ [0, n.vw]) n.rg (by simp)
  rw [Nat.mod_eq_of_lt (by omega : n.rg < 256), show n.rg / 256 % 256 = 0 by omega] at p3
  have p4 := put2_c ([n.kd] ++ [n.sr] ++ [0, n.vw] ++ [0, n.rg]) n.st (by simp)
  rw [Nat.mod_eq_of_lt (by omega : n.st < 256), show n.st / 256 % 256 = 0 by omega] at p4
  have hB : ([n.kd] ++ [n.sr] ++ [0, n.vw] ++ [0, n.rg] ++ [0, n.st]).length = 8 := rfl
  have hfin : [n.kd] ++ ([n.sr] ++ ([0, n.vw] ++ ([0, n.rg] ++ ([0, n.st] ++ (M.hash ++ (txt M.body ++ (packed M.parts.length ++ txts M.parts))))))) = ([n.kd] ++ [n.sr] ++ [0, n.vw] ++ [0, n.rg] ++ [0, n.st]) ++ M.hash ++ txt M.body ++ packed M.parts.length ++ txts M.parts := by simp
  rw [hfin]
  have e1 : krows .u8 [] = [] := rfl
  rw [e1] at p0
  generalize [n.kd] ++ [n.sr] ++ [0, n.vw] ++ [0, n.rg] ++ [0, n.st] = B5 at *
  generalize [n.kd] ++ [n.sr] ++ [0, n.vw] ++ [0, n.rg] = B4 at *
  generalize [n.kd] ++ [n.sr] ++ [0, n.vw] = B3 at *
  generalize [n.kd] ++ [n.sr] = B2 at *
  generalize [n.kd] = B1 at *
  have hbl := txt_len M.body h.body
  have hpl := packed_len64 M.parts.length (by have := h.parts; omega)
  have hpp := h.parts
  have hh := h.hash
  have hbd := h.body
  have hprt := h.part
  have p5 := putText_c (B5 ++ M.hash) M.body (by simp; omega) (by omega)
  have p6 := putPacked_c (B5 ++ M.hash ++ txt M.body) M.parts.length (by simp; omega) (by omega)
  have hlp := pul M.parts hpp hprt M.parts 0 (B5 ++ M.hash ++ txt M.body ++ packed M.parts.length) rfl (Nat.zero_le _) (by simp; omega)
  have u5 : IntKind.u64.wrap (M.parts.length : Int) = (M.parts.length : Int) := uws _ (by omega)
  have hrr := kns_r1 .u8 M.hash
  have hkl : (kns .u8 M.hash).length = 32 := by rw [kns_length, hh]
  have hap : krows .u8 B5 ++ krows .u8 M.hash = krows .u8 (B5 ++ M.hash) := krows_app _ _ _
  have hap2 : (krows .u8 B5).length = 8 := by rw [krows_length, hB]
  have hap3 : (krows .u8 M.hash).length = 32 := by rw [krows_length, hh]
  generalize B5 ++ M.hash ++ txt M.body ++ packed M.parts.length ++ txts M.parts = C9 at *
  generalize B5 ++ M.hash ++ txt M.body ++ packed M.parts.length = C8 at *
  generalize B5 ++ M.hash ++ txt M.body = C7 at *
  generalize B5 ++ M.hash = C6 at *
  generalize msP M = q at *
  generalize sizeF M = z at *
  simp [-getElem?_pos, -List.reduceReplicate, hl, h38, trows_length, g1, g1']
  refine CallG.go s0 ?_
  simp [-getElem?_pos, -List.reduceReplicate, hl, g2, g2']
  refine CallG.go f0 ?_
  simp [-List.reduceReplicate]
  refine CallG.go widths_c ?_
  simp [-getElem?_pos, hl, h0, h1, h2, h3, h4]
  refine LoopW.go irWirePut_L1.eq_1 (by simp) ?_
  simp [u0]
  refine CallG.go p0 ?_
  simp
  refine LoopW.go irWirePut_L1.eq_1 (by simp) ?_
  simp [u1]
  refine CallG.go p1 ?_
  simp
  refine LoopW.go irWirePut_L1.eq_1 (by simp) ?_
  simp [u2]
  refine CallG.go p2 ?_
  simp
  refine LoopW.go irWirePut_L1.eq_1 (by simp) ?_
  simp [u3]
  refine CallG.go p3 ?_
  simp
  refine LoopW.go irWirePut_L1.eq_1 (by simp) ?_
  simp [u4]
  refine CallG.go p4 ?_
  simp
  refine LoopW.go irWirePut_L1.eq_1 (by simp) ?_
  simp [-getElem?_pos, hl, h5, h37, hrr, hap, hap2, hap3, hkl]
  refine CallG.go p5 ?_
  simp [-getElem?_pos, hl, h38, trows_length, u5]
  refine CallG.go p6 ?_
  simp [-getElem?_pos, hl, h38, trows_length]
  refine hlp _ fun x a c => ?_
  simp
end Go.Proofs.Ytekpgcohlpkmnaa
