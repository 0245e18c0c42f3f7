/- What a client may ask for; formed requests: contracts. -/
import Derived.Test.YtcceiicpploclaaPlainExecs
import Derived.Test.YtcceiicpploclaaIrReqs
set_option linter.unusedVariables false
set_option linter.unusedSimpArgs false
namespace Go.Proofs.Ytcceiicpploclaa
open Go.Abs Go.RowKit Go.Ours

/-- A request. -/
structure Rq where
  client : Int
  seq : Int
  kd : Int
  ky : Int
  a : Int
  b : Int
  sig : List Nat
def rqP (r : Rq) : List PV := [.int .i64 r.client, .int .i64 r.seq, .int .i64 r.kd, .int .i64 r.ky, .int .i64 r.a, .int .i64 r.b, .sl 1 (krows .u8 r.sig)]
set_option maxHeartbeats 2000000 in
theorem reqRight_c (c kd ky a b : Int) : ACall Try.prog 33 [.pv (.int .i64 c), .pagg (opP kd ky a b)] [] (.pv (.bool (opOk c kd ky a b))) [] [] := by
  refine ACall.fn (fn := Try.f33) rfl okReqsRight rfl (by simp) ?_
  simp only [argT, irReqsRight.eq_1, opP]
  unfold opOk
  by_cases h0 : c = 0
  · subst h0
    by_cases h1 : kd = 6
    · by_cases h2 : ky = 0
      · by_cases h3 : b = 0
        · by_cases h4 : 0 ≤ a
          · by_cases h5 : a ≤ 65535
            · simp [h1, h2, h3, h4, h5]
            · simp [h1, h2, h3, h4, h5]
          · simp [h1, h2, h3, h4]
        · simp [h1, h2, h3]
      · simp [h1, h2]
    · simp [h1]
  · by_cases h1 : ky < 0
    · have h1' : ¬ 0 ≤ ky := by omega
      simp [h0, h1, h1']
    · have h1' : 0 ≤ ky := by omega
      by_cases h2 : 16 ≤ ky
      · have h2' : ¬ ky ≤ 15 := by omega
        simp [h0, h1, h1', h2, h2']
      · have h2' : ky ≤ 15 := by omega
        by_cases k1 : kd = 1
        · subst k1
          by_cases h3 : a = 0 <;> by_cases h4 : b = 0 <;> simp [h0, h1, h1', h2, h2', h3, h4]
        · by_cases k5 : kd = 5
          · subst k5
            by_cases h3 : a = 0 <;> by_cases h4 : b = 0 <;> simp [h0, h1, h1', h2, h2', h3, h4]
          · by_cases k2 : kd = 2
            · subst k2
              by_cases h4 : b = 0 <;> simp [h0, h1, h1', h2, h2', h4]
            · by_cases k3 : kd = 3
              · subst k3
                by_cases h4 : b = 0 <;> simp [h0, h1, h1', h2, h2', h4]
              · by_cases k4 : kd = 4
                · subst k4
                  simp [h0, h1, h1', h2, h2']
                · have hk : ¬ (1 ≤ kd ∧ kd ≤ 5) := by omega
                  simp [h0, h1, h1', h2, h2', k1, k2, k3, k4, k5]
                  omega
set_option maxHeartbeats 2000000 in
theorem refReqRight_c (c kd ky a b : Int) : ACall Try.prog 32 [.pv (.int .i64 c), .pagg (opP kd ky a b)] [] (.pv (.bool (opOk c kd ky a b))) [] [] := by
  refine ACall.fn (fn := Try.f32) rfl okRef07Right rfl (by simp) ?_
  simp only [argT, irRef07Right.eq_1, opP]
  unfold opOk
  by_cases h0 : c = 0
  · subst h0
    by_cases h1 : kd = 6
    · by_cases h2 : ky = 0
      · by_cases h3 : b = 0
        · by_cases h4 : 0 ≤ a
          · by_cases h5 : a ≤ 65535
            · simp [h1, h2, h3, h4, h5]
            · simp [h1, h2, h3, h4, h5]
          · simp [h1, h2, h3, h4]
        · simp [h1, h2, h3]
      · simp [h1, h2]
    · simp [h1]
  · by_cases k0 : kd < 1
    · have k0' : ¬ 1 ≤ kd := by omega
      simp [h0, k0, k0']
    · have k0' : 1 ≤ kd := by omega
      by_cases k6 : 5 < kd
      · have k6' : ¬ kd ≤ 5 := by omega
        simp [h0, k0, k0', k6, k6']
      · have k6' : kd ≤ 5 := by omega
        by_cases h1 : ky < 0
        · have h1' : ¬ 0 ≤ ky := by omega
          simp [h0, k0, k0', k6, k6', h1, h1']
        · have h1' : 0 ≤ ky := by omega
          by_cases h2 : 15 < ky
          · have h2' : ¬ ky ≤ 15 := by omega
            simp [h0, k0, k0', k6, k6', h1, h1', h2, h2']
          · have h2' : ky ≤ 15 := by omega
            by_cases k1 : kd = 1
            · subst k1
              by_cases h3 : a = 0 <;> by_cases h4 : b = 0 <;> simp [h0, h1, h1', h2, h2', h3, h4]
            · by_cases k5 : kd = 5
              · subst k5
                by_cases h3 : a = 0 <;> by_cases h4 : b = 0 <;> simp [h0, h1, h1', h2, h2', h3, h4]
              · by_cases k4 : kd = 4
                · subst k4
                  simp [h0, h1, h1', h2, h2']
                · by_cases h4 : b = 0 <;> simp [h0, k0, k0', k6, k6', h1, h1', h2, h2', k1, k4, k5, h4]
def formedF (r : Rq) : Bool := decide (0 ≤ r.client ∧ r.client < 6 ∧ 1 ≤ r.seq ∧ r.seq ≤ 8) && opOk r.client r.kd r.ky r.a r.b && decide (r.sig.length ≤ 1000)
theorem formed_c (r : Rq) : ACall Try.prog 28 [.pagg (rqP r)] [] (.pv (.bool (formedF r))) [] [] := by
  refine ACall.fn (fn := Try.f28) rfl okReqsFormed rfl (by simp) ?_
  simp only [argT, irReqsFormed.eq_1]
  obtain ⟨c, s, kd, ky, a, b, sg⟩ := r
  have h := reqRight_c c kd ky a b
  unfold formedF
  simp only [rqP, opP] at h ⊢
  generalize opOk c kd ky a b = o at *
  by_cases h1 : 0 ≤ c
  · by_cases h2 : c < 6
    · by_cases h3 : 1 ≤ s
      · by_cases h4 : s ≤ 8
        · cases o
          · simp [h1, h2, h3, h4]
            refine CallG.go h ?_
            simp
          · simp [h1, h2, h3, h4]
            refine CallG.go h ?_
            by_cases h5 : sg.length ≤ 1000
            · have h5' : (sg.length : Int) ≤ 1000 := by omega
              simp [krows_length, h5, h5']
            · have h5' : ¬ (sg.length : Int) ≤ 1000 := by omega
              simp [krows_length, h5, h5']
        · simp [h1, h2, h3, h4]
      · simp [h1, h2, h3]
    · simp [h1, h2]
  · simp [h1]
theorem refFormed_c (r : Rq) : ACall Try.prog 26 [.pagg (rqP r)] [] (.pv (.bool (formedF r))) [] [] := by
  refine ACall.fn (fn := Try.f26) rfl okRef07Formed rfl (by simp) ?_
  simp only [argT, irRef07Formed.eq_1]
  obtain ⟨c, s, kd, ky, a, b, sg⟩ := r
  have h := refReqRight_c c kd ky a b
  unfold formedF
  simp only [rqP, opP] at h ⊢
  generalize opOk c kd ky a b = o at *
  by_cases h1 : 0 ≤ c
  · by_cases h2 : c < 6
    · have h2' : c ≤ 5 := by omega
      by_cases h3 : 1 ≤ s
      · by_cases h4 : s ≤ 8
        · cases o
          · simp [h1, h2, h2', h3, h4]
            refine CallG.go h ?_
            simp
          · simp [h1, h2, h2', h3, h4]
            refine CallG.go h ?_
            by_cases h5 : sg.length ≤ 1000
            · have h5' : (sg.length : Int) ≤ 1000 := by omega
              simp [krows_length, h5, h5']
            · have h5' : ¬ (sg.length : Int) ≤ 1000 := by omega
              simp [krows_length, h5, h5']
        · simp [h1, h2, h2', h3, h4]
      · simp [h1, h2, h2', h3]
    · have h2' : ¬ c ≤ 5 := by omega
      simp [h1, h2, h2']
  · simp [h1]
end Go.Proofs.Ytcceiicpploclaa
