/- Names of whatever kind: walks and contracts. No condition. -/
import Derived.Test.YtlbfpnckoblppaaSnapD
import Derived.Laws.RangeAny
set_option linter.unusedVariables false
set_option linter.unusedSimpArgs false
namespace Go.Proofs.Ytlbfpnckoblppaa
open Go.Abs Go.RowKit Go.Ours

def okB (b : UInt8) : Prop := 97 ≤ b.toNat ∧ b.toNat ≤ 122
/-- The first byte that is no small letter. -/
structure Bad (s : ByteArray) (p : Nat) : Prop where
  lt : p < s.size
  ahead : ∀ (i : Nat) (h : i < p), okB (s[i]'(Nat.lt_trans h lt))
  here : ¬ okB (s[p]'lt)
theorem small_or (s : ByteArray) : small s ∨ ∃ p, Bad s p := by
  by_cases h : small s
  · exact Or.inl h
  · refine Or.inr ?_
    have hex : ∃ p, ∃ h : p < s.size, ¬ okB (s[p]'h) := by
      apply Classical.byContradiction
      intro hn
      apply h
      intro i hi
      apply Classical.byContradiction
      intro hb
      exact hn ⟨i, hi, hb⟩
    obtain ⟨p, hp, hb⟩ := hex
    induction p using Nat.strongRecOn with
    | _ p ih =>
      by_cases hall : ∀ (i : Nat) (h : i < p), okB (s[i]'(Nat.lt_trans h hp))
      · exact ⟨p, hp, hall, hb⟩
      · obtain ⟨i, hi⟩ := Classical.not_forall.1 hall
        obtain ⟨h1, h2⟩ := Classical.not_forall.1 hi
        exact ih i h1 (Nat.lt_trans h1 hp) h2
theorem next_bad {P : Program} (w : World) (s : ByteArray) (p : Nat) (ty : TypeId) (h : Bad s p) : ∃ (c : Int) (p' : Nat), (c < 97 ∨ 122 < c) ∧ (Instr.next (.pointer (some ⟨w.heap.size, 0, none⟩)) true ty).run P (w.iter s p) = .ok (.tuple #[.bool true, .int .i64 p, .int .i32 c]) (w.iter s p') := by
  have hb := h.here
  unfold okB at hb
  by_cases ha : (s[p]'h.lt).toNat < 128
  · exact ⟨_, _, by omega, run_next_ascii w s p ty h.lt ha⟩
  · have hd := decode_high s p h.lt (by omega)
    exact ⟨_, _, by omega, run_next_any w s p ty h.lt⟩
set_option maxRecDepth 1000000 in
set_option maxHeartbeats 2000000 in
theorem indexBad_w (s : ByteArray) (p : Nat) (hb : Bad s p) (hl : s.size ≤ 1000) (w : World) :
    Calls Try.prog 69 #[.string s, .func (.func 55) #[] #[], .bool true] w fun e w' => e = .returned (.int .i64 p) ∧ ∃ q, w' = w.iter s q := by
  have hrg := run_range_string (P := Try.prog) w 9 s Try.underlying9
  have hps := hb.lt
  go_enter Try.func69, Try.ntmps69
  go_wp2
  go_loopw [7] (fun _ wr => ∃ pos, wr = w.iter s pos ∧ pos ≤ p) (fun _ wr => s.size - (match wr.heap[w.heap.size]? with | some (.stringIter _ p) => p | _ => 0))
  case atStart => exact ⟨0, rfl, Nat.zero_le _⟩
  case round =>
    obtain ⟨pos, rfl, hle⟩ := hrel
    by_cases hp : pos < p
    · have ha := hb.ahead pos hp
      unfold okB at ha
      have hnx : ∀ ty, (Instr.next (.pointer (some ⟨w.heap.size, 0, none⟩)) true ty).run Try.prog (w.iter s pos) = _ := fun ty => run_next_ascii w s pos ty (by omega) (by omega)
      have h1 : ¬ (((s[pos]'(by omega)).toNat : Nat) : Int) < 97 := by omega
      have h2 : ¬ (122 : Int) < (((s[pos]'(by omega)).toNat : Nat) : Int) := by omega
      go_wp2_with (go_at_call 55; refine (lam_w _ _).mono ?_; rintro e w1 ⟨rfl, rfl⟩)
      go_roundw
      case rel => exact ⟨pos + 1, rfl, hp⟩
      case measure =>
        rw [World.iter_heap, World.iter_heap]
        show s.size - (pos + 1) < s.size - pos
        omega
    · have hpp : pos = p := by omega
      subst hpp
      obtain ⟨c, p', hc, hrun⟩ := next_bad (P := Try.prog) w s pos 0 hb
      have hnx : ∀ ty, (Instr.next (.pointer (some ⟨w.heap.size, 0, none⟩)) true ty).run Try.prog (w.iter s pos) = _ := fun _ => hrun
      rcases hc with hc | hc
      · go_wp2_with (go_at_call 55; refine (lam_w _ _).mono ?_; rintro e w1 ⟨rfl, rfl⟩)
        go_ret
        exact ⟨rfl, p', rfl⟩
      · have hc2 : ¬ c < 97 := by omega
        go_wp2_with (go_at_call 55; refine (lam_w _ _).mono ?_; rintro e w1 ⟨rfl, rfl⟩)
        go_ret
        exact ⟨rfl, p', rfl⟩
theorem IndexBad_w (s : ByteArray) (p : Nat) (hb : Bad s p) (hl : s.size ≤ 1000) (w : World) :
    Calls Try.prog 54 #[.string s, .func (.func 55) #[] #[]] w fun e w' => e = .returned (.int .i64 p) ∧ ∃ q, w' = w.iter s q := by
  go_enter Try.func54, Try.ntmps54
  go_wp2_with (go_at_call 69; refine (indexBad_w s p hb hl _).mono ?_; rintro e w1 ⟨rfl, p, rfl⟩)
  go_ret
  exact ⟨rfl, p, rfl⟩
theorem indexBad_c (s : ByteArray) (p : Nat) (hb : Bad s p) (hl : s.size ≤ 1000) : ACall Try.prog 54 [.pv (.str s), .fn 55] [] (.pv (.int .i64 (p : Nat))) [] [] := by
  intro X G w vals hsz hw0 hXd hx hR
  obtain ⟨v0, v1, rfl⟩ := two_val hsz
  have h0 := hR.tmp 0
  have h1 := hR.tmp 1
  have e0 : v0 = .string s := by
    have hp : PR (fp X G) w v0 (.str s) := h0.1.1
    cases hp
    rfl
  have e1 : v1 = .func (.func 55) #[] #[] := h1.1.1
  subst e0 e1
  refine (IndexBad_w s p hb hl w).mono fun e w' h => ?_
  obtain ⟨rfl, q, rfl⟩ := h
  have hf := ((hR.forget hXd.1 []).grow (.stringIter s q)).ans (v := .int .i64 (p : Nat)) (r := .pv (.int .i64 (p : Nat))) (V2.mkpv (.int _ _))
  refine ⟨_, _, rfl, hf, fun x h1 h2 => ?_, fun x b h1 h2 => ?_⟩
  · simp only
    rw [if_pos ⟨h2, h1⟩]
  · simp only at h2
    rw [if_neg (by omega)] at h2
    cases h2
/-- Is it a snap's name? -/
def Named (s : ByteArray) : Prop := small s ∧ 1 ≤ s.size ∧ s.size ≤ 16
theorem snamedN_c (s : ByteArray) (hn : ¬ Named s) (hl : s.size ≤ 30) : ACall Try.prog 44 [.pv (.str s)] [] (.pv (.bool false)) [] [] := by
  refine ACall.fn (fn := Try.f44) rfl okSnapsNamed rfl (by simp) ?_
  simp only [argT, irSnapsNamed.eq_1]
  by_cases h1 : 1 ≤ s.size
  · have h1' : (1 : Int) ≤ (s.size : Int) := by omega
    by_cases h2 : s.size ≤ 16
    · have h2' : (s.size : Int) ≤ 16 := by omega
      have hs : ¬ small s := fun h => hn ⟨h, h1, h2⟩
      obtain ⟨p, hb⟩ := (small_or s).resolve_left hs
      have c := indexBad_c s p hb (by omega)
      simp [h1', h2']
      refine CallG.go c ?_
      simp
    · have h2' : ¬ (s.size : Int) ≤ 16 := by omega
      simp [h1', h2']
  · have h1' : ¬ (1 : Int) ≤ (s.size : Int) := by omega
    simp [h1']
theorem askedN_c (s : ByteArray) (hn : ¬ Named s) (hl : s.size ≤ 30) (room : Nat) (rows : List (List PV)) (e1 e2 : List (List PV × PV)) : ACall Try.prog 27 [.ptr 1000 0, .pv (.str s)] [dkA room rows, .mc false [.s] e1, .mc false [.s] e2] (.pv (.int .i64 15)) [dkA room rows, .mc false [.s] e1, .mc false [.s] e2] [] := by
  refine ACall.fn (fn := Try.f27) rfl okSnapsAsked rfl (by simp) ?_
  simp only [argT, irSnapsAsked.eq_1, dkA]
  have c := snamedN_c s hn hl
  simp
  refine CallG.go c ?_
  simp
  rfl
theorem okSnapsSave0 : okFn Try.prog Try.f15 irSnapsSave [.t 6] [] 3 = true := by kernel_rfl
/-- What is refused leaves the disk as it was. -/
theorem saveN_c (s : ByteArray) (hn : ¬ Named s) (hl : s.size ≤ 30) (v : List Nat) (room : Nat) (rows : List (List PV)) (e1 e2 : List (List PV × PV)) : ACall Try.prog 15 [.ptr 1000 0, .pv (.str s), .pv (.sl 1 (krows .u8 v))] [dkA room rows, .mc false [.s] e1, .mc false [.s] e2] (.pv (.int .i64 15)) [dkA room rows, .mc false [.s] e1, .mc false [.s] e2] [] := by
  refine ACall.fn (fn := Try.f15) rfl okSnapsSave0 rfl (by simp) ?_
  simp only [argT, irSnapsSave.eq_1]
  have c := askedN_c s hn hl room rows e1 e2
  simp only [dkA] at c ⊢
  simp
  refine CallG.go c ?_
  simp
  rfl
theorem loadN_c (s : ByteArray) (hn : ¬ Named s) (hl : s.size ≤ 30) (room : Nat) (rows : List (List PV)) (e1 e2 : List (List PV × PV)) : ACall Try.prog 11 [.ptr 1000 0, .pv (.str s)] [dkA room rows, .mc false [.s] e1, .mc false [.s] e2] (.tup [.os 5 1 [], .pv (.int .i64 15)]) [dkA room rows, .mc false [.s] e1, .mc false [.s] e2] [] := by
  refine ACall.fn (fn := Try.f11) rfl okSnapsLoad rfl (by simp) ?_
  simp only [argT, irSnapsLoad.eq_1]
  have c := askedN_c s hn hl room rows e1 e2
  simp only [dkA] at c ⊢
  simp
  refine CallG.go c ?_
  simp
  rfl
end Go.Proofs.Ytlbfpnckoblppaa
