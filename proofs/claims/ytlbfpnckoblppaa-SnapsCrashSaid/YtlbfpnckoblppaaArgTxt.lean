/- What a law is given: numbers, and slices of slices of bytes. No condition. -/
import Derived.Test.YtlbfpnckoblppaaAbs2
set_option linter.unusedVariables false
set_option linter.unusedSimpArgs false
namespace Go.Abs
open Go.RowKit Go.Ours

def trows (T : List (List Nat)) : List (List PV) := T.map fun t => [PV.sl 1 (krows .u8 t)]
theorem trows_get (T : List (List Nat)) (i : Nat) : (trows T)[i]? = T[i]?.map fun t => [PV.sl 1 (krows .u8 t)] := by simp [trows]
theorem trows_length (T : List (List Nat)) : (trows T).length = T.length := by simp [trows]
theorem trows_of : ∀ {ps : List (List PV)}, (∀ p ∈ ps, ∃ t : List Nat, p = [.sl 1 (krows .u8 t)] ∧ t.length ≤ maxLen ∧ ∀ x ∈ t, x < 256) → ∃ T : List (List Nat), ps = trows T ∧ T.length = ps.length ∧ (∀ t ∈ T, t.length ≤ maxLen) ∧ ∀ t ∈ T, ∀ x ∈ t, x < 256 := by
  intro ps
  induction ps with
  | nil => exact fun _ => ⟨[], rfl, rfl, by simp, by simp⟩
  | cons p r ih =>
    intro h
    obtain ⟨t, rfl, h1, h2⟩ := h p List.mem_cons_self
    obtain ⟨T, rfl, h3, h4, h5⟩ := ih fun q hq => h q (List.mem_cons_of_mem _ hq)
    exact ⟨t :: T, rfl, by simp [h3], fun x hx => by rcases List.mem_cons.1 hx with rfl | hx; exact h1; exact h4 x hx, fun x hx => by rcases List.mem_cons.1 hx with rfl | hx; exact h2; exact h5 x hx⟩
/-- A slice of slices of bytes. -/
theorem arg_ssl8 {w : World} {a : Option Addr} {n c : Nat} (h : Shp.Reads w (.slice (.slice (.int .u8))) [.slice a n c]) : ∃ T : List (List Nat), ArgR w (.slice a n c) (.pv (.sl 1 (trows T))) ∧ T.length ≤ maxLen ∧ (∀ t ∈ T, t.length ≤ maxLen) ∧ ∀ t ∈ T, ∀ x ∈ t, x < 256 := by
  obtain ⟨ps, h1, h2, h3⟩ := pvs_of_reads rfl h
  obtain ⟨es, rfl, q1, q2⟩ := h2
  obtain ⟨T, rfl, g1, g2, g3⟩ := trows_of (ps := es) fun p hp => ok_sln rfl (q2 p hp)
  exact ⟨T, ArgR.pv (h1.2 0 _ _ rfl rfl), by omega, g2, g3⟩
theorem arg_int {w : World} (k : IntKind) (n : Int) : ArgR w (.int k n) (.pv (.int k n)) := ArgR.pv (.int _ _)
theorem wf_i64 {n : Int} (h : (Lit.int .i64 n).wf = true) : -9223372036854775808 ≤ n ∧ n < 9223372036854775808 := by
  obtain ⟨m, e, h1, h2⟩ := ok_i64 (ps := [.int .i64 n]) ⟨n, rfl, h⟩
  cases e
  exact ⟨h1, h2⟩
theorem wf_n {k : IntKind} (hk : k.signed = false) {n : Int} (h : (Lit.int k n).wf = true) : ∃ m : Nat, n = m ∧ m < 2 ^ k.bits := by
  obtain ⟨m, e, h2⟩ := ok_n hk (ps := [.int k n]) ⟨n, rfl, h⟩
  cases e
  exact ⟨m, rfl, h2⟩
/-- A row of digests. -/
def hrows (T : List (List Nat)) : List (List PV) := T.map fun h => kns .u8 h
theorem hrows_get (T : List (List Nat)) (i : Nat) : (hrows T)[i]? = T[i]?.map fun h => kns .u8 h := by simp [hrows]
theorem hrows_length (T : List (List Nat)) : (hrows T).length = T.length := by simp [hrows]
theorem hrows_one (T : List (List Nat)) (h : List Nat) : hrows T ++ [kns .u8 h] = hrows (T ++ [h]) := by simp [hrows]
/-- A number as it is put. -/
def uw (n : Int) : Nat := (n % 18446744073709551616).toNat
theorem uw_wrap (n : Int) : IntKind.u64.wrap n = (uw n : Int) := by
  have : IntKind.u64.wrap n = n % 18446744073709551616 := by simp [IntKind.wrap, IntKind.bits, IntKind.signed]
  rw [this]
  unfold uw
  omega
theorem uw_lt (n : Int) : uw n < 18446744073709551616 := by unfold uw; omega
end Go.Abs
