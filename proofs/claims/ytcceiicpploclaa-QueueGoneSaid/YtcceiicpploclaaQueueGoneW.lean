/- The law QueueGone. -/
import Derived.Test.YtcceiicpploclaaQueueC
set_option linter.unusedVariables false
set_option linter.unusedSimpArgs false
namespace Go.Proofs.Ytcceiicpploclaa
open Go.Abs Go.RowKit Go.Ours

theorem addlQueueGone (l : List Act) (ll : l.length ≤ 60) (hl : ∀ a ∈ l, AOk a) (P : List PV) : ∀ (n k : Nat) (x : List Rq) (m : List (Int × Int)), k + n = l.length → QI x m → ∀ (Q : Exit → S → Prop),
    (∀ a b c d x' m', QI x' m' → Q (.exit 0) (mk [(3, .ptr 3 0), (5, .ptr 15 0), (16, a), (17, b), (18, c), (19, d)] [(3, .pagg P), (15, .agg [.os 36 7 (qrows x'), .mp 515]), (515, qmap m')])) →
    LoopW Try.prog [3, 5, 16, 17, 18] [3, 15, 515] irLaw16QueueGone_L1 (mk [(3, .ptr 3 0), (5, .ptr 15 0), (16, .pv (.sl 38 (arows l))), (17, .pv (.int .i64 (l.length : Nat))), (18, .pv (.int .i64 (k : Nat)))] [(3, .pagg P), (15, .agg [.os 36 7 (qrows x), .mp 515]), (515, qmap m)]) Q := by
  intro n
  induction n with
  | zero =>
    intro k x m hk hq Q h1
    obtain rfl : k = l.length := by omega
    refine LoopW.go irLaw16QueueGone_L1.eq_1 (by simp [qmap]) ?_
    have h1' := h1 (.pv (.sl 38 (arows l))) (.pv (.int .i64 (l.length : Nat))) (.pv (.int .i64 (l.length : Nat))) (.pv (.bool false)) x m hq
    simp [qmap] at h1' ⊢
    exact h1'
  | succ n ih =>
    intro k x m hk hq Q h1
    have i1 : k < l.length := by omega
    obtain ⟨a, ha⟩ : ∃ a, l[k]? = some a := ⟨_, List.getElem?_eq_getElem (by omega)⟩
    have w : IntKind.i64.wrap ((k : Int) + 1) = (k + 1 : Nat) := by rw [wrap_i64] <;> omega
    have ho := hl a (List.mem_of_getElem? ha)
    obtain ⟨ls, hp⟩ := ho.lp
    have hpl := hp.len
    have c := add_c x m hq a.r ho.na ho.nb
    have ih' := ih (k + 1) _ _ (by omega) (hq.add ho.na ho.nb) Q h1
    refine LoopW.go irLaw16QueueGone_L1.eq_1 (by simp [qmap]) ?_
    simp [-getElem?_pos, qcont, qmap, rqP] at c ih'
    simp [-getElem?_pos, qmap, arows_get, i1, ha, actP, rqP, hpl, List.idxOf?_cons]
    refine CallG.go c ?_
    simp [w]
    exact ih'

theorem gol (x : List Rq) (m : List (Int × Int)) (hq : QI x m) (y : List Rq) (my : List (Int × Int)) (hy : QI y my) (ps : List PV) (ls : List Int) (hp : LastP ps ls) (hxy : y = dropL x ls) : ∀ (n k : Nat), k + n = x.length → (∀ r ∈ x.take k, keepB ls r = true) → ∀ (Q : Exit → S → Prop),
    ((∀ r ∈ x, keepB ls r = true) → ∀ a c d e f g, Q (.exit 2) (mk [(3, a), (5, .ptr 15 0), (8, .os 36 7 (qrows x)), (39, c), (40, d), (41, e), (42, f)] [(3, g), (15, .agg [.os 36 7 (qrows y), .mp 515]), (515, qmap my)])) →
    (∀ a b c d e f g i j, Q .ret (mk [(4, .pv (.bool true)), (5, a), (10, b), (53, c), (54, d), (55, e), (56, f)] [(10, g), (15, i), (515, j)])) →
    LoopW Try.prog [3, 5, 8, 39, 40, 41] [3, 15, 515] irLaw16QueueGone_L2 (mk [(3, .ptr 3 0), (5, .ptr 15 0), (8, .os 36 7 (qrows x)), (39, .pv (.sl 7 (qrows x))), (40, .pv (.int .i64 (x.length : Nat))), (41, .pv (.int .i64 (k : Nat)))] [(3, .pagg ps), (15, .agg [.os 36 7 (qrows y), .mp 515]), (515, qmap my)]) Q := by
  intro n
  induction n with
  | zero =>
    intro k hk hno Q h1 h2
    obtain rfl : k = x.length := by omega
    rw [List.take_length] at hno
    refine LoopW.go irLaw16QueueGone_L2.eq_1 (by simp [qmap]) ?_
    simp [qmap] at h1 ⊢
    exact h1 hno _ _ _ _ _ _
  | succ n ih =>
    intro k hk hno Q h1 h2
    have i1 : k < x.length := by omega
    have i2 := hq.le
    obtain ⟨r, hr⟩ : ∃ r, x[k]? = some r := ⟨_, List.getElem?_eq_getElem (by omega)⟩
    have w : IntKind.i64.wrap ((k : Int) + 1) = (k + 1 : Nat) := by rw [wrap_i64] <;> omega
    have hrx := List.mem_of_getElem? hr
    have hf := hq.fm r hrx
    have hs := formed_small hf
    have ht : x.take (k + 1) = x.take k ++ [r] := by rw [List.take_add_one, hr]; rfl
    obtain ⟨cn, hc⟩ : ∃ n : Nat, r.client = (n : Int) := ⟨r.client.toNat, by omega⟩
    have hcn : cn < 6 := by omega
    have hcn' : (cn : Int) < 6 := by omega
    have hg := hp.get hcn
    refine LoopW.go irLaw16QueueGone_L2.eq_1 (by simp [qmap]) ?_
    by_cases hlt : lsq ls (cn : Int) < r.seq
    · have hk : keepB ls r = true := by simp [keepB, hc, hlt]
      have hle : ¬ r.seq ≤ lsq ls (cn : Int) := by omega
      have ih' := ih (k + 1) (by omega) (fun q hq => by
        rw [ht] at hq
        rcases List.mem_append.1 hq with hq | hq
        · exact hno q hq
        · simp at hq; subst hq; exact hk) Q h1 h2
      simp [qmap] at ih'
      simp [-getElem?_pos, qmap, qrows_get, qrows_length, i1, hr, rqP, hc, hg, hcn, hcn', hlt, hle, w]
      exact ih'
    · have hkb : keepB ls r = false := by simp [keepB, hc, hlt]
      have hle : r.seq ≤ lsq ls (cn : Int) := by omega
      have hnb := hq.nb r hrx
      have c := add_c y my hy r hnb.1 hnb.2
      have hd0 : rid r ∉ y.map rid := by
        rw [hxy]
        intro hm
        obtain ⟨q, hq1, hq2⟩ := List.mem_map.1 hm
        obtain ⟨hq3, hq4⟩ := List.mem_filter.1 hq1
        obtain ⟨i, hi⟩ := List.getElem?_of_mem hq3
        have hij := nodup_getP hq.un (i := i) (j := k) (x := rid r) (by rw [List.getElem?_map, hi, ← hq2]; rfl) (by rw [List.getElem?_map, hr]; rfl)
        subst hij
        rw [hr] at hi
        cases hi
        rw [hkb] at hq4
        cases hq4
      have hlen : y.length < 12 := by
        rw [hxy]
        have : (dropL x ls).length < x.length := List.length_filter_lt_length_iff_exists.2 ⟨r, hrx, by rw [hkb]; simp⟩
        omega
      have he : addE y r = 0 := by
        simp only [addE, hf, Bool.true_eq_false, if_false, hd0]
        rw [if_neg (by omega)]
      rw [he] at c
      simp [qcont, qmap, rqP, hc] at c
      simp [-getElem?_pos, qmap, qrows_get, qrows_length, i1, hr, rqP, hc, hg, hcn, hcn', hlt, hle, List.idxOf?_cons]
      refine CallG.go c ?_
      simp
      exact h2 _ _ _ _ _ _ _ _ _
theorem lawGone_c (l : List Act) (hl : ∀ a ∈ l, AOk a) (ps : List PV) (ls : List Int) (hp : LastP ps ls) : ACall Try.prog 6 [.pv (.sl 38 (arows l)), .pagg ps] [] (.pv (.bool true)) [] [] := by
  refine ACall.fn (fn := Try.f6) rfl okLaw16QueueGone rfl (by simp) ?_
  simp only [argT, irLaw16QueueGone.eq_1]
  obtain ⟨b, c1, hb⟩ := long_c l
  cases b
  · have ll := hb rfl
    have n0 := qnew_c
    have lp := addlQueueGone l ll hl ps l.length 0 [] [] (by omega) QI.new
    have hpl := hp.len
    simp only [qmap] at n0 lp
    simp
    refine CallG.go wakes_c ?_
    simp
    refine CallG.go c1 ?_
    simp
    refine CallG.go n0 ?_
    simp [arows_length]
    refine lp _ fun a b c d x m hq => ?_
    have c2 := all_c x m hq
    have c3 := drop_c x m hq ps ls hp
    have hy := hq.drop ls
    have c4 := all_c _ _ hy
    have c5 := refDrop_c x hq.le hq.fm ps ls hp
    have hle := hy.le
    have c6 := sameAll_c (dropL x ls) (by omega) (fun r hr => (formed_small (hy.fm r hr)).2.2.2.2.2.2.2.2)
    have c7 := len_c (dropL x ls) (dropM ls x m)
    have lp2 := gol x m hq _ _ hy ps ls hp rfl x.length 0 (by omega) (by simp)
    have hz : (∀ r ∈ x, keepB ls r = true) → (dropL x ls).length = x.length := fun hz => by
      rw [dropL, List.filter_eq_self.2 hz]
    have hqx := hq.le
    generalize dropL x ls = y at *
    generalize dropM ls x m = my at *
    simp [qcont, qmap] at c2 c3 c4 c7
    simp only [qmap] at lp2
    simp [qmap, hpl, List.idxOf?_cons]
    refine CallG.go c2 ?_
    simp [qrows_length, hpl, List.idxOf?_cons]
    refine CallG.go c3 ?_
    simp [qrows_length, List.idxOf?_cons]
    refine CallG.go c4 ?_
    simp [qrows_length, hpl, List.idxOf?_cons]
    refine CallG.go c5 ?_
    simp
    refine CallG.go c6 ?_
    simp [qrows_length]
    refine lp2 _ (fun hn a c d e f g => ?_) (fun a b c d e f g i j => ?_)
    · have := hz hn
      rw [this] at c7
      simp [List.idxOf?_cons]
      refine CallG.go c7 ?_
      simp [qrows_length]
    · simp
  · simp
    refine CallG.go wakes_c ?_
    simp
    refine CallG.go c1 ?_
    simp
theorem walkQueueGone (a0 : Option Addr) (n0 : Nat) (cp0 : Nat) (c1 : Array Value) (w : World) (k0 : Shp.Reads w (.slice shA) [.slice a0 n0 cp0]) (k1 : Shp.Reads w (.arr 6 shR) c1.toList) :
     Calls Try.prog 6 #[.slice a0 n0 cp0, .agg c1] w fun e w' => e = .returned (.bool true) ∧ Below w.heap.size w w' := by
  obtain ⟨l, q0, hl, hr⟩ := arg_acts k0
  obtain ⟨ps, ls, q1, hp⟩ := arg_last k1
  refine lawCalls (lawGone_c l hr ps ls hp) rfl fun i v av hv ha => ?_
  match i with
  | 0 => cases hv; cases ha; exact q0
  | 1 => cases hv; cases ha; exact q1
  | n + 2 => simp at hv
end Go.Proofs.Ytcceiicpploclaa
