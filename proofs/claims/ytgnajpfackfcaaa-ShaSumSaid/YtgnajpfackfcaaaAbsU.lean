/- The abstract machine: how states and code are worked out by simp. No condition. -/
import Derived.Test.YtgnajpfackfcaaaAbsT
set_option linter.unusedVariables false
set_option linter.unusedSimpArgs false
namespace Go.Abs
open Go.RowKit Go.Ours

/-- A state, told by what its slots and variables hold. -/
def lk (n : Nat) : List (Nat × AV) → AV
  | [] => .undef
  | (m, v) :: r => if n = m then v else lk n r
def mk (ts ms : List (Nat × AV)) : S
  | .t n => lk n ts
  | .m n => lk n ms
def ins (n : Nat) (v : AV) : List (Nat × AV) → List (Nat × AV)
  | [] => [(n, v)]
  | (m, u) :: r => if n = m then (n, v) :: r else if n < m then (n, v) :: (m, u) :: r else (m, u) :: ins n v r
def del (xs : List Nat) : List (Nat × AV) → List (Nat × AV)
  | [] => []
  | (m, u) :: r => if m ∈ xs then del xs r else (m, u) :: del xs r
def kp (xs : List Nat) : List (Nat × AV) → List (Nat × AV)
  | [] => []
  | (m, u) :: r => if m ∈ xs then (m, u) :: kp xs r else kp xs r
def mapv (f : AV → AV) : List (Nat × AV) → List (Nat × AV)
  | [] => []
  | (m, u) :: r => (m, f u) :: mapv f r

theorem lk_ins (n m : Nat) (v : AV) : ∀ l : List (Nat × AV), lk m (ins n v l) = if m = n then v else lk m l := by
  intro l
  induction l with
  | nil => rfl
  | cons p r ih =>
    obtain ⟨k, u⟩ := p
    simp only [ins]
    by_cases h1 : n = k
    · subst h1
      rw [if_pos rfl]
      simp only [lk]
      split <;> rfl
    · rw [if_neg h1]
      by_cases h2 : n < k
      · rw [if_pos h2]
        simp only [lk]
      · rw [if_neg h2]
        simp only [lk, ih]
        by_cases h3 : m = k
        · subst h3
          rw [if_pos rfl, if_pos rfl, if_neg (fun h => h1 h.symm)]
        · rw [if_neg h3, if_neg h3]
theorem lk_del (xs : List Nat) (m : Nat) : ∀ l : List (Nat × AV), lk m (del xs l) = if m ∈ xs then .undef else lk m l := by
  intro l
  induction l with
  | nil => simp [del, lk]
  | cons p r ih =>
    obtain ⟨k, u⟩ := p
    simp only [del]
    by_cases hk : k ∈ xs
    · rw [if_pos hk, ih]
      simp only [lk]
      by_cases h : m = k
      · subst h; rw [if_pos hk, if_pos hk]
      · rw [if_neg h]
    · rw [if_neg hk]
      simp only [lk, ih]
      by_cases h : m = k
      · subst h; rw [if_pos rfl, if_neg hk, if_pos rfl]
      · rw [if_neg h, if_neg h]
theorem lk_kp (xs : List Nat) (m : Nat) : ∀ l : List (Nat × AV), lk m (kp xs l) = if m ∈ xs then lk m l else .undef := by
  intro l
  induction l with
  | nil => simp [kp, lk]
  | cons p r ih =>
    obtain ⟨k, u⟩ := p
    simp only [kp]
    by_cases hk : k ∈ xs
    · rw [if_pos hk]
      simp only [lk, ih]
      by_cases h : m = k
      · subst h; rw [if_pos rfl, if_pos hk, if_pos rfl]
      · rw [if_neg h, if_neg h]
    · rw [if_neg hk, ih]
      simp only [lk]
      by_cases h : m = k
      · subst h; rw [if_neg hk, if_neg hk]
      · rw [if_neg h]
theorem lk_mapv (f : AV → AV) (hf : f .undef = .undef) (m : Nat) : ∀ l : List (Nat × AV), lk m (mapv f l) = f (lk m l) := by
  intro l
  induction l with
  | nil => exact hf.symm
  | cons p r ih =>
    obtain ⟨k, u⟩ := p
    simp only [mapv, lk, ih]
    split <;> rfl

theorem mk_t (ts ms : List (Nat × AV)) (n : Nat) : mk ts ms (.t n) = lk n ts := rfl
theorem mk_m (ts ms : List (Nat × AV)) (n : Nat) : mk ts ms (.m n) = lk n ms := rfl
theorem up_t (ts ms : List (Nat × AV)) (n : Nat) (v : AV) : (mk ts ms).up (.t n) v = mk (ins n v ts) ms := by
  funext k
  cases k with
  | t m => simp only [S.up, mk, lk_ins, Key.t.injEq]
  | m x => simp [S.up, mk]
theorem up_m (ts ms : List (Nat × AV)) (n : Nat) (v : AV) : (mk ts ms).up (.m n) v = mk ts (ins n v ms) := by
  funext k
  cases k with
  | t m => simp [S.up, mk]
  | m x => simp only [S.up, mk, lk_ins, Key.m.injEq]
theorem kill_mk (xs ys : List Nat) (ts ms : List (Nat × AV)) : killS xs ys (mk ts ms) = mk (kp xs ts) (kp ys ms) := by
  funext k
  cases k <;> simp only [killS, mk, lk_kp]
theorem purge_mk (xs : List Nat) (ts ms : List (Nat × AV)) : purgeS xs (mk ts ms) = mk (mapv (pur2 xs) ts) (mapv (pur1 xs) (del xs ms)) := by
  funext k
  cases k with
  | t n => simp only [purgeS, mk]; rw [lk_mapv _ rfl]
  | m n =>
    simp only [purgeS, mk]
    rw [lk_mapv _ rfl, lk_del]
    split <;> rfl

theorem iwp_skip {P : Program} {s : S} {Q : Exit → S → Prop} : iwp P .skip s Q = Q .normal s := rfl
theorem iwp_region {P : Program} {ops : List GOp} {s : S} {Q : Exit → S → Prop} : iwp P (.region ops) s Q = wpI P ops (match IOp.alls ops with
    | [] => s
    | xs => purgeS xs s) (Q .normal) := rfl
theorem iwp_seq {P : Program} {a b : IR} {s : S} {Q : Exit → S → Prop} : iwp P (.seq a b) s Q = iwp P a s (thenA (fun s' => iwp P b s' Q) Q) := rfl
theorem iwp_cond {P : Program} {c : Opd} {a b : IR} {s : S} {Q : Exit → S → Prop} : iwp P (.cond c a b) s Q = match ev s c with
    | .pv (.bool t) => (t = true → iwp P a s Q) ∧ (t = false → iwp P b s Q)
    | _ => False := rfl
theorem iwp_block {P : Program} {id : Nat} {a : IR} {s : S} {Q : Exit → S → Prop} : iwp P (.block id a) s Q = iwp P a s (blockA id Q) := rfl
theorem iwp_exit {P : Program} {id : Nat} {s : S} {Q : Exit → S → Prop} : iwp P (.exit id) s Q = Q (.exit id) s := rfl
theorem iwp_ret {P : Program} {s : S} {Q : Exit → S → Prop} : iwp P .ret s Q = Q .ret s := rfl
theorem iwp_scope {P : Program} {a : IR} {s : S} {Q : Exit → S → Prop} : iwp P (.scope a) s Q = iwp P a s Q := rfl
theorem iwp_kill {P : Program} {xs ys : List Nat} {a : IR} {s : S} {Q : Exit → S → Prop} : iwp P (.kill xs ys a) s Q = iwp P a (killS xs ys s) Q := rfl

theorem killS_idem (xs ys : List Nat) (s : S) : killS xs ys (killS xs ys s) = killS xs ys s := by
  funext k
  cases k with
  | t n => simp only [killS]; split <;> rfl
  | m n => simp only [killS]; split <;> rfl
/-- A loop, whose rounds keep some slots in mind. -/
def LoopW (P : Program) (ts ms : List Nat) (a : IR) (s : S) (Q : Exit → S → Prop) : Prop := iwp P (.loop (.kill ts ms a)) s Q
theorem iwp_loop_in {P : Program} {xs ys : List Nat} {a : IR} {s : S} {Q : Exit → S → Prop} (h : iwp P (.loop (.kill xs ys a)) (killS xs ys s) Q) : iwp P (.loop (.kill xs ys a)) s Q := by
  intro R hR
  have h2 := h (fun s => ∀ s0, killS xs ys s = killS xs ys s0 → R s0) (fun s hs s0 h0 => hR s0 (by
    simp only [iwp] at hs ⊢
    rw [h0] at hs
    exact iwp_mono (thenA_mono (fun s' h => h s' rfl) fun _ _ h => h) hs))
  exact h2 s (killS_idem xs ys s)
theorem iwp_loop_out {P : Program} {xs ys : List Nat} {a : IR} {s : S} {Q : Exit → S → Prop} (h : iwp P (.loop (.kill xs ys a)) s Q) : iwp P (.loop (.kill xs ys a)) (killS xs ys s) Q := by
  intro R hR
  have h2 := h (fun s => ∀ s0, killS xs ys s = killS xs ys s0 → R s0) (fun s hs s0 h0 => hR s0 (by
    simp only [iwp] at hs ⊢
    rw [h0] at hs
    exact iwp_mono (thenA_mono (fun s' h => h s' rfl) fun _ _ h => h) hs))
  exact h2 _ (killS_idem xs ys s).symm
theorem iwp_loopw {P : Program} {xs ys : List Nat} {a : IR} {s : S} {Q : Exit → S → Prop} : iwp P (.loop (.kill xs ys a)) s Q = LoopW P xs ys a (killS xs ys s) Q :=
  propext ⟨iwp_loop_out, iwp_loop_in⟩
/-- A round. -/
theorem LoopW.step {P : Program} {xs ys : List Nat} {a : IR} {ts ms : List (Nat × AV)} {Q : Exit → S → Prop} (hk : killS xs ys (mk ts ms) = mk ts ms) (h : iwp P a (mk ts ms) (thenA (fun s' => LoopW P xs ys a (killS xs ys s') Q) Q)) : LoopW P xs ys a (mk ts ms) Q := by
  refine iwp_loop ?_
  rw [iwp_kill, hk]
  exact iwp_mono (thenA_mono (fun s' hs => iwp_loop_in hs) fun _ _ h => h) h

theorem thenA_normal {n : S → Prop} {Q : Exit → S → Prop} {s : S} : thenA n Q .normal s = n s := rfl
theorem thenA_exit {n : S → Prop} {Q : Exit → S → Prop} {s : S} {id : Nat} : thenA n Q (.exit id) s = Q (.exit id) s := rfl
theorem thenA_ret {n : S → Prop} {Q : Exit → S → Prop} {s : S} : thenA n Q .ret s = Q .ret s := rfl
theorem blockA_normal {id : Nat} {Q : Exit → S → Prop} {s : S} : blockA id Q .normal s = Q .normal s := rfl
theorem blockA_ret {id : Nat} {Q : Exit → S → Prop} {s : S} : blockA id Q .ret s = Q .ret s := rfl
theorem blockA_exit {id id' : Nat} {Q : Exit → S → Prop} {s : S} : blockA id Q (.exit id') s = if id' = id then Q .normal s else Q (.exit id') s := rfl

/-- An operation that is no call. -/
def isCall : IOp → Bool
  | .call _ _ _ _ _ _ => true
  | _ => false
theorem wpI_nil {P : Program} {s : S} {K : S → Prop} : wpI P [] s K = K s := rfl
theorem EffR_op {P : Program} {i : IOp} {s : S} {U : List (Key × AV)} (h : isCall i = false) : EffR P s i U = ∃ c, eff s i = some (c, U) ∧ c := by
  cases i <;> first | rfl | cases h
/-- What an operation asks. -/
def wpE (e : Option (Prop × List (Key × AV))) (k : List (Key × AV) → Prop) : Prop := match e with
  | some (c, U) => c ∧ k U
  | none => False
theorem wpI_op {P : Program} {i : IOp} {r : List GOp} {s : S} {K : S → Prop} (h : isCall i = false) : wpI P ((i, none) :: r) s K = wpE (eff s i) fun U => wpI P r (s.ups U) K := by
  simp only [wpI, EffG, EffR_op h]
  apply propext
  constructor
  · rintro ⟨U, ⟨c, h1, h2⟩, h3⟩
    rw [h1]
    exact ⟨h2, h3⟩
  · intro hh
    unfold wpE at hh
    split at hh
    · rename_i c U he; exact ⟨U, ⟨c, he, hh.1⟩, hh.2⟩
    · exact hh.elim
theorem wpE_some {c : Prop} {U : List (Key × AV)} {k : List (Key × AV) → Prop} : wpE (some (c, U)) k = (c ∧ k U) := rfl

/-- A guarded operation: what was asked is known behind it. -/
theorem wpI_guard {P : Program} {i : IOp} {t : Nat} {want : Bool} {r : List GOp} {ts ms : List (Nat × AV)} {K : S → Prop} {b : Bool} (hb : lk t ts = .pv (.bool b)) :
    wpI P ((i, some (t, want)) :: r) (mk ts ms) K = ((b = want → wpI P ((i, none) :: r) (mk (ins t (.pv (.bool want)) ts) ms) K) ∧ (b = !want → wpI P r ((mk (ins t (.pv (.bool (!want))) ts) ms).ups (skipU i)) K)) := by
  have hs : mk (ins t (.pv (.bool b)) ts) ms = mk ts ms := by
    rw [← up_t]
    funext k
    simp only [S.up]
    split
    · rename_i h; subst h; simp [mk, hb]
    · rfl
  have e1 : wpI P ((i, some (t, want)) :: r) (mk ts ms) K = ∃ U, (if b = want then EffR P (mk ts ms) i U else U = skipU i) ∧ wpI P r ((mk ts ms).ups U) K := by
    simp only [wpI, EffG, mk_t, hb]
  rw [e1]
  apply propext
  by_cases hw : b = want
  · subst hw
    rw [hs]
    have hne : b ≠ !b := by cases b <;> simp
    simp only [if_true, true_implies, hne, false_implies, and_true]
    rfl
  · have hw' : b = !want := by cases b <;> cases want <;> simp_all
    subst hw'
    rw [hs]
    simp only [hw, if_false, false_implies, true_and, true_implies]
    constructor
    · rintro ⟨U, rfl, h⟩; exact h
    · intro h; exact ⟨_, rfl, h⟩
theorem wpI_none {P : Program} {i : IOp} {t : Nat} {want : Bool} {r : List GOp} {ts ms : List (Nat × AV)} {K : S → Prop} (hb : lk t ts = .none) :
    wpI P ((i, some (t, want)) :: r) (mk ts ms) K = wpI P r ((mk ts ms).ups (skipU i)) K := by
  simp only [wpI, EffG, mk_t, hb]
  apply propext
  constructor
  · rintro ⟨U, rfl, h⟩; exact h
  · intro h; exact ⟨_, rfl, h⟩

/-- A call. -/
def CallG (P : Program) (f : Nat) (args lentC : List AV) (d : Nat) (lent news frz : List Nat) (k : List (Key × AV) → Prop) : Prop :=
  ∃ r lent' newc, ACall P f args lentC r lent' newc ∧ lent'.length = lent.length ∧ newc.length = news.length ∧ (∀ a ∈ lent', a.isAgg) ∧ (∀ a ∈ newc, a.isAgg) ∧
    (frz = [] ∨ (r.flat ∧ (∀ a ∈ lent', a.flat0) ∧ ∀ a ∈ newc, a.flat0)) ∧
    k ((.t d, ren2 (backF lent news) r) :: ((lent.zip lent').map fun (y, a) => (Key.m y, ren1 (backF lent news) a)) ++ ((news.zip newc).map fun (y, a) => (Key.m y, ren1 (backF lent news) a)))
def wpA (e : Option (Prop × List AV)) (k : List AV → Prop) : Prop := match e with
  | some (c, l) => c ∧ k l
  | none => False
theorem wpA_some {c : Prop} {U : List AV} {k : List AV → Prop} : wpA (some (c, U)) k = (c ∧ k U) := rfl
theorem wpI_call {P : Program} {d f : Nat} {xs : List Opd} {lent news frz : List Nat} {r : List GOp} {s : S} {K : S → Prop} : wpI P ((.call d f xs lent news frz, none) :: r) s K =
    wpA (argsA s lent frz xs) fun args => (∀ y ∈ lent, (s (.m y)).isAgg) ∧ CallG P f args (lent.map fun y => ren1 (fun x => (lent.idxOf? x).map (1000 + ·)) (s (.m y))) d lent news frz fun U => wpI P r (s.ups U) K := by
  simp only [wpI, EffG, EffR, CallEff]
  apply propext
  constructor
  · rintro ⟨U, ⟨c, args, rr, lent', newc, h1, h2, h3, h4, h5, h6, h7, h8, h9, rfl⟩, h10⟩
    rw [h1]
    exact ⟨h2, h3, rr, lent', newc, h4, h5, h6, h7, h8, h9, h10⟩
  · intro hh
    unfold wpA at hh
    split at hh
    · rename_i c args he
      obtain ⟨h2, h3, rr, lent', newc, h4, h5, h6, h7, h8, h9, h10⟩ := hh
      exact ⟨_, ⟨c, args, rr, lent', newc, he, h2, h3, h4, h5, h6, h7, h8, h9, rfl⟩, h10⟩
    · exact hh.elim
theorem CallG.go {P : Program} {f : Nat} {args lentC : List AV} {d : Nat} {lent news frz : List Nat} {k : List (Key × AV) → Prop} {r : AV} {lent' newc : List AV} (h : ACall P f args lentC r lent' newc)
    (hk : (lent'.length = lent.length ∧ newc.length = news.length ∧ (∀ a ∈ lent', a.isAgg) ∧ (∀ a ∈ newc, a.isAgg) ∧ (frz = [] ∨ (r.flat ∧ (∀ a ∈ lent', a.flat0) ∧ ∀ a ∈ newc, a.flat0))) ∧
      k ((.t d, ren2 (backF lent news) r) :: ((lent.zip lent').map fun (y, a) => (Key.m y, ren1 (backF lent news) a)) ++ ((news.zip newc).map fun (y, a) => (Key.m y, ren1 (backF lent news) a)))) : CallG P f args lentC d lent news frz k :=
  ⟨r, lent', newc, h, hk.1.1, hk.1.2.1, hk.1.2.2.1, hk.1.2.2.2.1, hk.1.2.2.2.2, hk.2⟩

def ccode (fn : Func) : Code := fn.body.getD .skip
def okFn (P : Program) (fn : Func) (ir : IR) (rs : List RS) (ns : List Nat) (n : Nat) : Bool :=
  fn.body.isSome && (okIR P fn.ntmps ir (ccode fn) && okRS P rs fn.results.toList && decide (rs.flatMap rsT).Nodup && decide ns.Nodup && (ns.all fun x => decide (x < 1000)) && decide (n ≤ fn.ntmps))
theorem ACall.ofFn {P : Program} {f : Nat} {fn : Func} {ir : IR} {rs : List RS} {ns : List Nat} {args lent : List AV} {r : AV} {lent' newc : List AV} {n : Nat}
    (hf : P.funcs[f]? = some fn) (hok : okFn P fn ir rs ns n = true) (hn : args.length = n) (hll : lent'.length ≤ 1000) (h : iwp P ir (sinOf args lent) (fun e s => (e = .normal ∨ e = .ret) ∧ RetOK rs ns s r lent' newc)) : ACall P f args lent r lent' newc := by
  simp only [okFn, Bool.and_eq_true] at hok
  obtain ⟨bd, hb⟩ := Option.isSome_iff_exists.1 hok.1
  refine ACall.of (code := ccode fn) hf (by simp [ccode, hb]) (by rw [hn]; simp only [Bool.and_eq_true]; exact hok.2) hll h

/-- A function's first state. -/
def argT (k : Nat) : List AV → List (Nat × AV)
  | [] => []
  | a :: r => (k, a) :: argT (k + 1) r
theorem lk_argT (l : List AV) : ∀ (k n : Nat), lk n (argT k l) = if k ≤ n then l.getD (n - k) .undef else .undef := by
  induction l with
  | nil => intro k n; simp [argT, lk]
  | cons a r ih =>
    intro k n
    simp only [argT, lk, ih]
    by_cases h1 : n = k
    · subst h1; simp
    · rw [if_neg h1]
      by_cases h2 : k ≤ n
      · rw [if_pos h2, if_pos (by omega), show n - k = (n - (k + 1)) + 1 by omega]
        rfl
      · rw [if_neg h2, if_neg (by omega)]
theorem sin_mk (args lent : List AV) : sinOf args lent = mk (argT 0 args) (argT 1000 lent) := by
  funext k
  cases k with
  | t i => simp [sinOf, mk, lk_argT]
  | m x => simp only [sinOf, mk, lk_argT]
end Go.Abs
