/- What a law is given, as lists of numbers. No condition. -/
import Derived.Test.YtgnajpfackfcaaaAbsT
import Derived.Test.YtgnajpfackfcaaaPlainInt
set_option linter.unusedVariables false
set_option linter.unusedSimpArgs false
namespace Go.Abs
open Go.RowKit Go.Ours

theorem ok_n {k : IntKind} (hk : k.signed = false) {ps : List PV} (h : OKs (.int k) ps) : ∃ n : Nat, ps = [.int k (n : Int)] ∧ n < 2 ^ k.bits := by
  obtain ⟨n, rfl, hw⟩ := h
  have : 0 ≤ n ∧ n.toNat < 2 ^ k.bits := by
    cases k <;> simp [IntKind.signed] at hk <;> simp [Lit.wf, IntKind.min, IntKind.max, IntKind.bits, IntKind.signed] at hw ⊢ <;> omega
  exact ⟨n.toNat, by simp [Int.toNat_of_nonneg this.1], this.2⟩
theorem ok_i64 {ps : List PV} (h : OKs (.int .i64) ps) : ∃ n : Int, ps = [.int .i64 n] ∧ -9223372036854775808 ≤ n ∧ n < 9223372036854775808 := by
  obtain ⟨n, rfl, hw⟩ := h
  simp [Lit.wf, IntKind.min, IntKind.max, IntKind.bits, IntKind.signed] at hw
  exact ⟨n, rfl, by omega, by omega⟩
theorem kns_of {k : IntKind} : ∀ {ps : List PV}, (∀ p ∈ ps, ∃ n : Nat, p = .int k (n : Int) ∧ n < 2 ^ k.bits) → ∃ l : List Nat, ps = kns k l ∧ l.length = ps.length ∧ ∀ x ∈ l, x < 2 ^ k.bits := by
  intro ps
  induction ps with
  | nil => exact fun _ => ⟨[], rfl, rfl, by simp⟩
  | cons p r ih =>
    intro h
    obtain ⟨n, rfl, hn⟩ := h p List.mem_cons_self
    obtain ⟨l, rfl, h1, h2⟩ := ih fun q hq => h q (List.mem_cons_of_mem _ hq)
    exact ⟨n :: l, rfl, by simp [h1], fun x hx => by rcases List.mem_cons.1 hx with rfl | hx; exact hn; exact h2 x hx⟩
theorem krows_of {k : IntKind} : ∀ {ps : List (List PV)}, (∀ p ∈ ps, ∃ n : Nat, p = [.int k (n : Int)] ∧ n < 2 ^ k.bits) → ∃ l : List Nat, ps = krows k l ∧ l.length = ps.length ∧ ∀ x ∈ l, x < 2 ^ k.bits := by
  intro ps
  induction ps with
  | nil => exact fun _ => ⟨[], rfl, rfl, by simp⟩
  | cons p r ih =>
    intro h
    obtain ⟨n, rfl, hn⟩ := h p List.mem_cons_self
    obtain ⟨l, rfl, h1, h2⟩ := ih fun q hq => h q (List.mem_cons_of_mem _ hq)
    exact ⟨n :: l, rfl, by simp [h1], fun x hx => by rcases List.mem_cons.1 hx with rfl | hx; exact hn; exact h2 x hx⟩
theorem ok_arrn {k : IntKind} (hk : k.signed = false) {n : Nat} {ps : List PV} (h : OKs (.arr n (.int k)) ps) : ∃ l : List Nat, ps = kns k l ∧ l.length = n ∧ ∀ x ∈ l, x < 2 ^ k.bits := by
  obtain ⟨h1, h2⟩ := h
  simp only [Shp.size, Nat.mul_one] at h1 h2
  obtain ⟨l, rfl, hl, hb⟩ := kns_of (k := k) (ps := ps) fun p hp => by
    obtain ⟨i, hi, rfl⟩ := List.mem_iff_getElem.1 hp
    obtain ⟨m, hm, hm2⟩ := ok_n hk (h2 i (by omega))
    simp only [Nat.mul_one, List.drop_eq_getElem_cons hi, List.take_succ_cons, List.take_zero, List.cons.injEq, and_true] at hm
    exact ⟨m, hm, hm2⟩
  exact ⟨l, rfl, by omega, hb⟩
theorem ok_sln {k : IntKind} (hk : k.signed = false) {ps : List PV} (h : OKs (.slice (.int k)) ps) : ∃ l : List Nat, ps = [.sl 1 (krows k l)] ∧ l.length ≤ maxLen ∧ ∀ x ∈ l, x < 2 ^ k.bits := by
  obtain ⟨es, rfl, h1, h2⟩ := h
  obtain ⟨l, rfl, hl, hb⟩ := krows_of (k := k) (ps := es) fun p hp => ok_n hk (h2 p hp)
  exact ⟨l, rfl, by omega, hb⟩

/-- An array of bytes. -/
theorem arg_arr8 {w : World} {n : Nat} {c : Array Value} (h : Shp.Reads w (.arr n (.int .u8)) c.toList) : ∃ l : List Nat, ArgR w (.agg c) (.pagg (kns .u8 l)) ∧ l.length = n ∧ ∀ x ∈ l, x < 256 := by
  obtain ⟨ps, h1, h2, h3⟩ := pvs_of_reads rfl h
  obtain ⟨l, rfl, hl, hb⟩ := ok_arrn rfl h2
  exact ⟨l, ArgR.agg h1, hl, hb⟩
/-- A slice of bytes. -/
theorem arg_sl8 {w : World} {a : Option Addr} {n c : Nat} (h : Shp.Reads w (.slice (.int .u8)) [.slice a n c]) : ∃ l : List Nat, ArgR w (.slice a n c) (.pv (.sl 1 (krows .u8 l))) ∧ l.length ≤ maxLen ∧ ∀ x ∈ l, x < 256 := by
  obtain ⟨ps, h1, h2, h3⟩ := pvs_of_reads rfl h
  obtain ⟨l, rfl, hl, hb⟩ := ok_sln rfl h2
  exact ⟨l, ArgR.pv (h1.2 0 _ _ rfl rfl), hl, hb⟩
end Go.Abs
