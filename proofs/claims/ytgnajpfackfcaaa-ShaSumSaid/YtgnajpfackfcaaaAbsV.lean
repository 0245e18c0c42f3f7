/- The abstract machine: the rules by which simp works out code. No condition. -/
import Derived.Test.YtgnajpfackfcaaaAbsU
set_option linter.unusedVariables false
set_option linter.unusedSimpArgs false
namespace Go.Abs
open Go.RowKit Go.Ours

/-- What is still to be done, as data. -/
inductive Fr where
  | c (a : IR)
  | b (id : Nat)
def KK (P : Program) : List Fr → (Exit → S → Prop) → Exit → S → Prop
  | [], Q => Q
  | .c a :: r, Q => thenA (fun s => iwp P a s (KK P r Q)) (KK P r Q)
  | .b id :: r, Q => blockA id (KK P r Q)

section
variable {P : Program} {r : List Fr} {Q : Exit → S → Prop} {s : S}
theorem kk_start {a : IR} (h : iwp P a s (KK P [] Q)) : iwp P a s Q := h
theorem kk_nil {e : Exit} : KK P [] Q e s = Q e s := rfl
theorem kk_c {a : IR} : KK P (.c a :: r) Q .normal s = iwp P a s (KK P r Q) := rfl
theorem kk_ce {a : IR} {id : Nat} : KK P (.c a :: r) Q (.exit id) s = KK P r Q (.exit id) s := rfl
theorem kk_cr {a : IR} : KK P (.c a :: r) Q .ret s = KK P r Q .ret s := rfl
theorem kk_b {id : Nat} : KK P (.b id :: r) Q .normal s = KK P r Q .normal s := rfl
theorem kk_be {id id' : Nat} : KK P (.b id :: r) Q (.exit id') s = if id' = id then KK P r Q .normal s else KK P r Q (.exit id') s := rfl
theorem kk_br {id : Nat} : KK P (.b id :: r) Q .ret s = KK P r Q .ret s := rfl
theorem ik_skip : iwp P .skip s (KK P r Q) = KK P r Q .normal s := rfl
theorem ik_region {ops : List GOp} : iwp P (.region ops) s (KK P r Q) = wpI P ops (match IOp.alls ops with
    | [] => s
    | xs => purgeS xs s) (KK P r Q .normal) := rfl
theorem ik_seq {a b : IR} : iwp P (.seq a b) s (KK P r Q) = iwp P a s (KK P (.c b :: r) Q) := rfl
theorem ik_block {id : Nat} {a : IR} : iwp P (.block id a) s (KK P r Q) = iwp P a s (KK P (.b id :: r) Q) := rfl
theorem ik_exit {id : Nat} : iwp P (.exit id) s (KK P r Q) = KK P r Q (.exit id) s := rfl
theorem ik_ret : iwp P .ret s (KK P r Q) = KK P r Q .ret s := rfl
theorem ik_scope {a : IR} : iwp P (.scope a) s (KK P r Q) = iwp P a s (KK P r Q) := rfl
theorem ik_kill {xs ys : List Nat} {a : IR} : iwp P (.kill xs ys a) s (KK P r Q) = iwp P a (killS xs ys s) (KK P r Q) := rfl
theorem ik_loop {xs ys : List Nat} {a : IR} : iwp P (.loop (.kill xs ys a)) s (KK P r Q) = LoopW P xs ys a (killS xs ys s) (KK P r Q) := iwp_loopw
end

/-- A loop goes on. -/
def nextW (P : Program) (xs ys : List Nat) (a : IR) (Q : Exit → S → Prop) : Exit → S → Prop := thenA (fun s' => LoopW P xs ys a (killS xs ys s') Q) Q
theorem nextW_n {P : Program} {xs ys : List Nat} {a : IR} {Q : Exit → S → Prop} {s : S} : nextW P xs ys a Q .normal s = LoopW P xs ys a (killS xs ys s) Q := rfl
theorem nextW_e {P : Program} {xs ys : List Nat} {a : IR} {Q : Exit → S → Prop} {s : S} {id : Nat} : nextW P xs ys a Q (.exit id) s = Q (.exit id) s := rfl
theorem nextW_r {P : Program} {xs ys : List Nat} {a : IR} {Q : Exit → S → Prop} {s : S} : nextW P xs ys a Q .ret s = Q .ret s := rfl
/-- A round. -/
theorem LoopW.go {P : Program} {xs ys : List Nat} {a b : IR} {ts ms : List (Nat × AV)} {Q : Exit → S → Prop} (hab : a = b) (hk : killS xs ys (mk ts ms) = mk ts ms) (h : iwp P b (mk ts ms) (KK P [] (nextW P xs ys a Q))) : LoopW P xs ys a (mk ts ms) Q := by subst hab; exact LoopW.step hk h

/-- A function's end. -/
def Fin (rs : List RS) (ns : List Nat) (r : AV) (lent' newc : List AV) (e : Exit) (s : S) : Prop := (e = .normal ∨ e = .ret) ∧ RetOK rs ns s r lent' newc
/-- What a function must come to, once its results are worked out. -/
def FinR (ns : List Nat) (x : Option (Prop × AV)) (ls : List AV) (nc : List AV) (r : AV) (lent' newc : List AV) : Prop := match x with
  | some (c, r0) => c ∧ r = ren2 (outF ns) r0 ∧ lent' = ls ∧ newc = nc
  | none => False
theorem finR_some {ns : List Nat} {c : Prop} {r0 : AV} {ls nc : List AV} {r : AV} {lent' newc : List AV} : FinR ns (some (c, r0)) ls nc r lent' newc = (c ∧ r = ren2 (outF ns) r0 ∧ lent' = ls ∧ newc = nc) := rfl
theorem fin_of {rs : List RS} {ns : List Nat} {r : AV} {lent' newc : List AV} {s : S} {e : Exit} (he : e = .normal ∨ e = .ret) : Fin rs ns r lent' newc e s = FinR ns (resA s rs) ((List.range lent'.length).map fun k => ren1 (outF ns) (s (.m (1000 + k)))) (ns.map fun x => ren1 (outF ns) (s (.m x))) r lent' newc := by
  unfold Fin RetOK FinR
  apply propext
  constructor
  · rintro ⟨_, c, r0, h1, h2, h3⟩
    rw [h1]
    exact ⟨h2, h3⟩
  · intro h
    refine ⟨he, ?_⟩
    split at h
    · rename_i c r0 hr; exact ⟨c, r0, hr, h.1, h.2⟩
    · exact h.elim
theorem fin_n {rs : List RS} {ns : List Nat} {r : AV} {lent' newc : List AV} {ts ms : List (Nat × AV)} : Fin rs ns r lent' newc .normal (mk ts ms) = FinR ns (resA (mk ts ms) rs) ((List.range lent'.length).map fun k => ren1 (outF ns) (mk ts ms (.m (1000 + k)))) (ns.map fun x => ren1 (outF ns) (mk ts ms (.m x))) r lent' newc := fin_of (Or.inl rfl)
theorem fin_r {rs : List RS} {ns : List Nat} {r : AV} {lent' newc : List AV} {ts ms : List (Nat × AV)} : Fin rs ns r lent' newc .ret (mk ts ms) = FinR ns (resA (mk ts ms) rs) ((List.range lent'.length).map fun k => ren1 (outF ns) (mk ts ms (.m (1000 + k)))) (ns.map fun x => ren1 (outF ns) (mk ts ms (.m x))) r lent' newc := fin_of (Or.inr rfl)
theorem ACall.fn {P : Program} {f : Nat} {fn : Func} {ir : IR} {rs : List RS} {ns : List Nat} {args lent : List AV} {r : AV} {lent' newc : List AV} {n : Nat}
    (hf : P.funcs[f]? = some fn) (hok : okFn P fn ir rs ns n = true) (hn : args.length = n) (hll : lent'.length ≤ 1000) (h : iwp P ir (Abs.mk (argT 0 args) (argT 1000 lent)) (KK P [] (Fin rs ns r lent' newc))) : ACall P f args lent r lent' newc := by
  refine ACall.ofFn hf hok hn hll ?_
  rw [sin_mk]
  exact h

theorem wpI_opk {P : Program} {i : IOp} {r : List GOp} {ts ms : List (Nat × AV)} {K : S → Prop} (h : isCall i = false) : wpI P ((i, none) :: r) (mk ts ms) K = wpE (eff (mk ts ms) i) fun U => wpI P r ((mk ts ms).ups U) K := wpI_op h
theorem wpI_callk {P : Program} {d f : Nat} {xs : List Opd} {lent news frz : List Nat} {r : List GOp} {ts ms : List (Nat × AV)} {K : S → Prop} : wpI P ((.call d f xs lent news frz, none) :: r) (mk ts ms) K =
    wpA (argsA (mk ts ms) lent frz xs) fun args => (∀ y ∈ lent, (mk ts ms (.m y)).isAgg) ∧ CallG P f args (lent.map fun y => ren1 (fun x => (lent.idxOf? x).map (1000 + ·)) (mk ts ms (.m y))) d lent news frz fun U => wpI P r ((mk ts ms).ups U) K := wpI_call

/-- A branch. -/
def cnd (P : Program) (v : AV) (a b : IR) (s : S) (Q : Exit → S → Prop) : Prop := match v with
  | .pv (.bool t) => (t = true → iwp P a s Q) ∧ (t = false → iwp P b s Q)
  | _ => False
theorem ik_cnd {P : Program} {c : Opd} {a b : IR} {s : S} {r : List Fr} {Q : Exit → S → Prop} : iwp P (.cond c a b) s (KK P r Q) = cnd P (ev s c) a b s (KK P r Q) := rfl
theorem cnd_bool {P : Program} {t : Bool} {a b : IR} {s : S} {Q : Exit → S → Prop} : cnd P (.pv (.bool t)) a b s Q = ((t = true → iwp P a s Q) ∧ (t = false → iwp P b s Q)) := rfl
theorem cnd_true {P : Program} {a b : IR} {s : S} {Q : Exit → S → Prop} : cnd P (.pv (.bool true)) a b s Q = iwp P a s Q := by simp [cnd_bool]
theorem cnd_false {P : Program} {a b : IR} {s : S} {Q : Exit → S → Prop} : cnd P (.pv (.bool false)) a b s Q = iwp P b s Q := by simp [cnd_bool]

/-- A guard. -/
def gd (P : Program) (v : AV) (t : Nat) (want : Bool) (i : IOp) (r : List GOp) (ts ms : List (Nat × AV)) (K : S → Prop) : Prop := match v with
  | .pv (.bool b) => (b = want → wpI P ((i, none) :: r) (mk (ins t (.pv (.bool want)) ts) ms) K) ∧ (b = !want → wpI P r ((mk (ins t (.pv (.bool (!want))) ts) ms).ups (skipU i)) K)
  | .none => wpI P r ((mk ts ms).ups (skipU i)) K
  | _ => False
theorem wpI_gd {P : Program} {i : IOp} {t : Nat} {want : Bool} {r : List GOp} {ts ms : List (Nat × AV)} {K : S → Prop} : wpI P ((i, some (t, want)) :: r) (mk ts ms) K = gd P (lk t ts) t want i r ts ms K := by
  unfold gd
  split
  · rename_i b hb; exact wpI_guard hb
  · rename_i hb; exact wpI_none hb
  · rename_i h1 h2
    simp only [wpI, EffG, mk_t]
    apply propext
    constructor
    · rintro ⟨U, h, _⟩
      exact h.elim
    · exact fun h => h.elim
theorem gd_bool {P : Program} {b : Bool} {t : Nat} {want : Bool} {i : IOp} {r : List GOp} {ts ms : List (Nat × AV)} {K : S → Prop} : gd P (.pv (.bool b)) t want i r ts ms K = ((b = want → wpI P ((i, none) :: r) (mk (ins t (.pv (.bool want)) ts) ms) K) ∧ (b = !want → wpI P r ((mk (ins t (.pv (.bool (!want))) ts) ms).ups (skipU i)) K)) := rfl
theorem gd_tt {P : Program} {t : Nat} {i : IOp} {r : List GOp} {ts ms : List (Nat × AV)} {K : S → Prop} : gd P (.pv (.bool true)) t true i r ts ms K = wpI P ((i, none) :: r) (mk (ins t (.pv (.bool true)) ts) ms) K := by simp [gd_bool]
theorem gd_ff {P : Program} {t : Nat} {i : IOp} {r : List GOp} {ts ms : List (Nat × AV)} {K : S → Prop} : gd P (.pv (.bool false)) t false i r ts ms K = wpI P ((i, none) :: r) (mk (ins t (.pv (.bool false)) ts) ms) K := by simp [gd_bool]
theorem gd_tf {P : Program} {t : Nat} {i : IOp} {r : List GOp} {ts ms : List (Nat × AV)} {K : S → Prop} : gd P (.pv (.bool true)) t false i r ts ms K = wpI P r ((mk (ins t (.pv (.bool true)) ts) ms).ups (skipU i)) K := by simp [gd_bool]
theorem gd_ft {P : Program} {t : Nat} {i : IOp} {r : List GOp} {ts ms : List (Nat × AV)} {K : S → Prop} : gd P (.pv (.bool false)) t true i r ts ms K = wpI P r ((mk (ins t (.pv (.bool false)) ts) ms).ups (skipU i)) K := by simp [gd_bool]
theorem gd_none {P : Program} {t : Nat} {want : Bool} {i : IOp} {r : List GOp} {ts ms : List (Nat × AV)} {K : S → Prop} : gd P .none t want i r ts ms K = wpI P r ((mk ts ms).ups (skipU i)) K := rfl

theorem wpI_p {P : Program} {r : List GOp} {ts ms : List (Nat × AV)} {K : S → Prop} (d : Nat) (o : POp) (xs : List Opd) : wpI P ((.p d o xs, none) :: r) (mk ts ms) K = wpE (eff (mk ts ms) (.p d o xs)) fun U => wpI P r ((mk ts ms).ups U) K := wpI_opk rfl
theorem wpI_mv {P : Program} {r : List GOp} {ts ms : List (Nat × AV)} {K : S → Prop} (d n : Nat) : wpI P ((.mv d n, none) :: r) (mk ts ms) K = wpE (eff (mk ts ms) (.mv d n)) fun U => wpI P r ((mk ts ms).ups U) K := wpI_opk rfl
theorem wpI_alloc {P : Program} {r : List GOp} {ts ms : List (Nat × AV)} {K : S → Prop} (d : Nat) (z : AV) : wpI P ((.alloc d z, none) :: r) (mk ts ms) K = wpE (eff (mk ts ms) (.alloc d z)) fun U => wpI P r ((mk ts ms).ups U) K := wpI_opk rfl
theorem wpI_box {P : Program} {r : List GOp} {ts ms : List (Nat × AV)} {K : S → Prop} (d : Nat) (x : Opd) : wpI P ((.box d x, none) :: r) (mk ts ms) K = wpE (eff (mk ts ms) (.box d x)) fun U => wpI P r ((mk ts ms).ups U) K := wpI_opk rfl
theorem wpI_build {P : Program} {r : List GOp} {ts ms : List (Nat × AV)} {K : S → Prop} (d : Nat) (z : AV) (ps : List (Nat × Nat × Opd)) : wpI P ((.build d z ps, none) :: r) (mk ts ms) K = wpE (eff (mk ts ms) (.build d z ps)) fun U => wpI P r ((mk ts ms).ups U) K := wpI_opk rfl
theorem wpI_bslice {P : Program} {r : List GOp} {ts ms : List (Nat × AV)} {K : S → Prop} (d e sz n : Nat) (z : List PV) (ps : List (Nat × Opd)) : wpI P ((.bslice d e sz n z ps, none) :: r) (mk ts ms) K = wpE (eff (mk ts ms) (.bslice d e sz n z ps)) fun U => wpI P r ((mk ts ms).ups U) K := wpI_opk rfl
theorem wpI_mks {P : Program} {r : List GOp} {ts ms : List (Nat × AV)} {K : S → Prop} (d : Nat) (z : List PV) (x : Opd) : wpI P ((.mks d z x, none) :: r) (mk ts ms) K = wpE (eff (mk ts ms) (.mks d z x)) fun U => wpI P r ((mk ts ms).ups U) K := wpI_opk rfl
theorem wpI_load {P : Program} {r : List GOp} {ts ms : List (Nat × AV)} {K : S → Prop} (d : Nat) (n : Option (Nat × Bool)) (st : Option Nat) (x : Opd) : wpI P ((.load d n st x, none) :: r) (mk ts ms) K = wpE (eff (mk ts ms) (.load d n st x)) fun U => wpI P r ((mk ts ms).ups U) K := wpI_opk rfl
theorem wpI_loadmv {P : Program} {r : List GOp} {ts ms : List (Nat × AV)} {K : S → Prop} (d : Nat) (st : Option Nat) (x : Opd) : wpI P ((.loadmv d st x, none) :: r) (mk ts ms) K = wpE (eff (mk ts ms) (.loadmv d st x)) fun U => wpI P r ((mk ts ms).ups U) K := wpI_opk rfl
theorem wpI_store {P : Program} {r : List GOp} {ts ms : List (Nat × AV)} {K : S → Prop} (n : Option (Nat × Bool)) (st : Option Nat) (x v : Opd) : wpI P ((.store n st x v, none) :: r) (mk ts ms) K = wpE (eff (mk ts ms) (.store n st x v)) fun U => wpI P r ((mk ts ms).ups U) K := wpI_opk rfl
theorem wpI_storemv {P : Program} {r : List GOp} {ts ms : List (Nat × AV)} {K : S → Prop} (st : Option Nat) (x : Opd) (n : Nat) : wpI P ((.storemv st x n, none) :: r) (mk ts ms) K = wpE (eff (mk ts ms) (.storemv st x n)) fun U => wpI P r ((mk ts ms).ups U) K := wpI_opk rfl
theorem wpI_app {P : Program} {r : List GOp} {ts ms : List (Nat × AV)} {K : S → Prop} (d e sz n : Nat) (st : Option Nat) (x : Opd) : wpI P ((.app d e sz n st x, none) :: r) (mk ts ms) K = wpE (eff (mk ts ms) (.app d e sz n st x)) fun U => wpI P r ((mk ts ms).ups U) K := wpI_opk rfl
theorem wpI_fzb {P : Program} {r : List GOp} {ts ms : List (Nat × AV)} {K : S → Prop} (d n : Nat) : wpI P ((.fzb d n, none) :: r) (mk ts ms) K = wpE (eff (mk ts ms) (.fzb d n)) fun U => wpI P r ((mk ts ms).ups U) K := wpI_opk rfl
theorem wpI_copy {P : Program} {r : List GOp} {ts ms : List (Nat × AV)} {K : S → Prop} (d v : Nat) (st : Option Nat) (x y : Opd) : wpI P ((.copy d v st x y, none) :: r) (mk ts ms) K = wpE (eff (mk ts ms) (.copy d v st x y)) fun U => wpI P r ((mk ts ms).ups U) K := wpI_opk rfl
theorem lk_nil (n : Nat) : lk n [] = .undef := rfl
theorem lk_cons (n m : Nat) (v : AV) (r : List (Nat × AV)) : lk n ((m, v) :: r) = if n = m then v else lk n r := rfl
theorem ins_nil (n : Nat) (v : AV) : ins n v [] = [(n, v)] := rfl
theorem ins_cons (n m : Nat) (v u : AV) (r : List (Nat × AV)) : ins n v ((m, u) :: r) = if n = m then (n, v) :: r else if n < m then (n, v) :: (m, u) :: r else (m, u) :: ins n v r := rfl
theorem kp_nil (xs : List Nat) : kp xs [] = [] := rfl
theorem kp_cons (xs : List Nat) (m : Nat) (u : AV) (r : List (Nat × AV)) : kp xs ((m, u) :: r) = if m ∈ xs then (m, u) :: kp xs r else kp xs r := rfl
theorem del_nil (xs : List Nat) : del xs [] = [] := rfl
theorem del_cons (xs : List Nat) (m : Nat) (u : AV) (r : List (Nat × AV)) : del xs ((m, u) :: r) = if m ∈ xs then del xs r else (m, u) :: del xs r := rfl
theorem mapv_nil (f : AV → AV) : mapv f [] = [] := rfl
theorem mapv_cons (f : AV → AV) (m : Nat) (u : AV) (r : List (Nat × AV)) : mapv f ((m, u) :: r) = (m, f u) :: mapv f r := rfl
theorem ups_nil (s : S) : s.ups [] = s := rfl
theorem ups_cons (s : S) (k : Key) (v : AV) (r : List (Key × AV)) : s.ups ((k, v) :: r) = (s.up k v).ups r := rfl
theorem ev_t (ts ms : List (Nat × AV)) (n : Nat) : ev (mk ts ms) (.t n) = lk n ts := rfl
theorem evd_t (ts ms : List (Nat × AV)) (n : Nat) : evd (mk ts ms) (.t n) = (lk n ts).dem2 := rfl
theorem evd_c (s : S) (v : AV) : evd s (.c v) = v := rfl
theorem ev_c (s : S) (v : AV) : ev s (.c v) = v := rfl

attribute [simp high] cnd_true cnd_false gd_tt gd_ff gd_tf gd_ft
attribute [simp low] cnd_bool gd_bool
attribute [simp] List.getElem?_cons_zero
attribute [simp] kk_nil kk_c kk_ce kk_cr kk_b kk_be kk_br ik_skip ik_region ik_seq ik_block ik_exit ik_ret ik_scope ik_kill ik_loop ik_cnd nextW_n nextW_e nextW_r fin_n fin_r finR_some
  gd_none wpI_gd wpI_nil wpI_callk wpI_p wpI_mv wpI_alloc wpI_box wpI_build wpI_bslice wpI_mks wpI_load wpI_loadmv wpI_store wpI_storemv wpI_app wpI_fzb wpI_copy wpE_some wpA_some
  lk_nil lk_cons ins_nil ins_cons kp_nil kp_cons del_nil del_cons mapv_nil mapv_cons ups_nil ups_cons ev_t ev_c evd_t evd_c mk_t mk_m up_t up_m kill_mk purge_mk IOp.alls IOp.makes IOp.dst skipU
  eff pval pvPick pvBin pvBeq pvPeq pvAeq pvUn pvConv pvField pvIndex pvFieldAddr pvIndexArr pvIndexSl bnds pvSliceSl pvSliceArr pvS2ap pvLen pvMm pvExt pvNilc isShift ibin sbin
  getc getr part1 AV.dem0 AV.dem1 AV.dem2 toCells AV.storable putA fillA avSize cellsPV fillR stOk loadA storeA rowsA argA argsA ren0 ren1 ren2 backF pur0 pur1 pur2 AV.isAgg AV.flat0 AV.flat
  resv resvs resA outF argT

theorem u8_wrap (n : Nat) (h : n < 256) : IntKind.u8.wrap (n : Int) = n := by simp [IntKind.wrap, IntKind.bits, IntKind.signed]; omega
end Go.Abs
