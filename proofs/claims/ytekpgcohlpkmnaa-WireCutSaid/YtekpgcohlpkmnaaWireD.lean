/- wire.Get, cut in pieces: what each does. No condition. -/
import Derived.Test.YtekpgcohlpkmnaaWireG
set_option linter.unusedVariables false
set_option linter.unusedSimpArgs false
namespace Go.Proofs.Ytekpgcohlpkmnaa
open Go.Abs Go.RowKit Go.Ours

def cL : Code → Code
  | .seq a _ => a
  | c => c
def cR : Code → Code
  | .seq _ b => b
  | c => c
noncomputable def getA : Code := cL (ccode Try.f15)
noncomputable def getB : Code := cL (cR (ccode Try.f15))
noncomputable def getC : Code := cL (cR (cR (ccode Try.f15)))
noncomputable def getD : Code := cR (cR (cR (ccode Try.f15)))
theorem get_body : (Try.f15).body = some (.seq getA (.seq getB (.seq getC getD))) := by kernel_rfl
def irGetA : IR := .region [(.alloc 2 (.pagg [.int .i64 0, .int .i64 0, .int .i64 0, .int .i64 0, .int .i64 0, .int .u8 0, .int .u8 0, .int .u8 0, .int .u8 0, .int .u8 0, .int .u8 0, .int .u8 0, .int .u8 0, .int .u8 0, .int .u8 0, .int .u8 0, .int .u8 0, .int .u8 0, .int .u8 0, .int .u8 0, .int .u8 0, .int .u8 0, .int .u8 0, .int .u8 0, .int .u8 0, .int .u8 0, .int .u8 0, .int .u8 0, .int .u8 0, .int .u8 0, .int .u8 0, .int .u8 0, .int .u8 0, .int .u8 0, .int .u8 0, .int .u8 0, .int .u8 0, .sl 1 [], .sl 1 []]), none), (.alloc 3 (.pagg [.int .i64 0]), none)]
def irGetB : IR := (.seq (.kill [0, 2, 3] [2, 3] (.region [(.p 4 .id [.t 0], none), (.p 5 (.len none) [.t 4], none), (.p 6 (.bin .gtr) [.t 5, .c (.pv (.int .i64 65504))], none)]))
  (.cond (.t 6)
   (.seq (.kill [2, 3] [2, 3] (.region [(.build 7 (.pagg [.int .i64 0, .int .i64 0, .int .i64 0, .int .i64 0, .int .i64 0, .int .u8 0, .int .u8 0, .int .u8 0, .int .u8 0, .int .u8 0, .int .u8 0, .int .u8 0, .int .u8 0, .int .u8 0, .int .u8 0, .int .u8 0, .int .u8 0, .int .u8 0, .int .u8 0, .int .u8 0, .int .u8 0, .int .u8 0, .int .u8 0, .int .u8 0, .int .u8 0, .int .u8 0, .int .u8 0, .int .u8 0, .int .u8 0, .int .u8 0, .int .u8 0, .int .u8 0, .int .u8 0, .int .u8 0, .int .u8 0, .int .u8 0, .int .u8 0, .sl 1 [], .sl 1 []]) [], none), (.store (some (39, true)) (some 2) (.t 2) (.t 7), none), (.store none (some 3) (.t 3) (.c (.pv (.int .i64 4))), none)])) .ret)
   (.kill [0, 2, 3] [2, 3] .skip)))
def irGetD : IR := (.seq (.kill [0, 2, 3] [1000, 1001] (.regionE [
    (.p 9 .id [.t 0], none),
    (.call 10 30 [.t 9] [] [10] [], none),
    (.build 11 (.agg [.pv .nilp]) [(0, 1, .t 10)], none),
    (.call 12 31 [.t 11] [10] [] [], none),
    (.store (some (39, true)) (some 1000) (.t 2) (.t 12), none),
    (.store none (some 1001) (.t 3) (.c (.pv (.int .i64 0))), none)])) .ret)
theorem okGetA : okIR Try.prog 13 irGetA getA = true := by kernel_rfl
theorem okGetB : okIR Try.prog 13 irGetB getB = true := by kernel_rfl
theorem okGetD : okIR Try.prog 13 irGetD getD = true := by kernel_rfl
theorem getC_eq : getC = .region 3 #[⟨some 8, .makeFunc (.func 29) #[] #[.tmp 2, .tmp 3], 1, "wire.go:124", #[], none⟩, ⟨none, .defer { callee := .value (.tmp 8), args := #[], argTypes := #[] }, 0, "wire.go:124", #[⟨0, .data⟩], none⟩] false := by kernel_rfl
theorem getC_wp {a : Act} {w : World} {Q : Exit → Act → World → Prop} (hs : a.tmps.size = 13)
    (h : Q .normal { tmps := (a.put (some 8) (.func (.func 29) #[] #[a.tmps.getD 2 undef, a.tmps.getD 3 undef])).tmps, defers := { target := .fn (.func 29) #[a.tmps.getD 2 undef, a.tmps.getD 3 undef], args := #[] } :: a.defers } w) : getC.wp Try.prog Q a w := by
  have hmf : ∀ (fn : Fn) (first cap : Array Value) (w : World), (Instr.makeFunc fn first cap).run Try.prog w = .ok (.func fn first cap) w := fun _ _ _ _ => rfl
  rw [getC_eq]
  refine wp_region ?_
  simp [wpOps, go_sem, hmf, hs, Oper.upon]
  refine Or.inl (Or.inl ?_)
  simpa [Act.put, hs] using h
/-- The region that writes the error. -/
noncomputable def getX2 : Code := match ccode Try.f29 with
  | .seq _ (.seq _ (.cond _ x _)) => x
  | c => c
def irGetX : IR := .region [(.build 10 (.pagg [.int .i64 0, .int .i64 0, .int .i64 0, .int .i64 0, .int .i64 0, .int .u8 0, .int .u8 0, .int .u8 0, .int .u8 0, .int .u8 0, .int .u8 0, .int .u8 0, .int .u8 0, .int .u8 0, .int .u8 0, .int .u8 0, .int .u8 0, .int .u8 0, .int .u8 0, .int .u8 0, .int .u8 0, .int .u8 0, .int .u8 0, .int .u8 0, .int .u8 0, .int .u8 0, .int .u8 0, .int .u8 0, .int .u8 0, .int .u8 0, .int .u8 0, .int .u8 0, .int .u8 0, .int .u8 0, .int .u8 0, .int .u8 0, .int .u8 0, .sl 1 [], .sl 1 []]) [], none), (.p 11 .id [.t 2], none), (.store (some (39, true)) (some 1000) (.t 0) (.t 10), none), (.store none (some 1001) (.t 1) (.t 11), none)]
theorem getX2_eq : getX2 = .region 2 #[{ dst := some 10, op := Op.build 27 #[], type := 27, pos := "wire.go:126", after := #[], guard := none },
   { dst := some 11, op := Op.move (Operand.tmp 2), type := 57, pos := "wire.go:126", after := #[{ on := 2, ground := Ground.gcOnly Departure.lateStores }], guard := none },
   { dst := none, op := Op.store 27 (Operand.tmp 0) (Operand.tmp 10), type := 0, pos := "wire.go:126", after := #[{ on := 0, ground := Ground.data }, { on := 0, ground := Ground.phase }, { on := 1, ground := Ground.textOnly Departure.lateStores }], guard := none },
   { dst := none, op := Op.store 33 (Operand.tmp 1) (Operand.tmp 11), type := 0, pos := "wire.go:126", after := #[{ on := 1, ground := Ground.data }, { on := 2, ground := Ground.chain }, { on := 0, ground := Ground.phase }, { on := 1, ground := Ground.phase }, { on := 2, ground := Ground.phase }], guard := none }] false := by kernel_rfl
theorem okGetX : okIR Try.prog 12 irGetX getX2 = true := by kernel_rfl
theorem wp_act {P : Program} {c : Code} {Q : Exit → Act → World → Prop} {a a' : Act} {w : World} (e : a = a') (h : c.wp P Q a w) : c.wp P Q a' w := e ▸ h
theorem ta_nil (w : World) : (Instr.typeAssert .nilIface 20 57 true).run Try.prog w = .ok (.tuple #[.int .i64 0, .bool false]) w := by
  have hu := Try.underlying57
  simp [Instr.typeAssert, go_sem, hu]
theorem ta_some (v : Value) (w : World) : (Instr.typeAssert (.iface 57 v) 20 57 true).run Try.prog w = .ok (.tuple #[v, .bool true]) w := by
  have hu := Try.underlying57
  simp [Instr.typeAssert, go_sem, hu]
theorem catch_idle (v0 v1 : Value) (w : World) : CallsD Try.prog 29 #[v0, v1] .returning w fun e u' w' => e = .returned (.tuple #[]) ∧ u' = .returning ∧ w' = w := by
  refine callsD_of_wpS (fn := Try.f29) rfl rfl fun c₀ cs hu => ?_
  apply wpS_seq
  apply wpS_region
  have h0 := ta_nil w
  simp [wpOpsS, go_sem, recoverD, hu, Try.ntmps29, Exit.thenS, h0]
  apply wpS_seq
  apply wpS_region
  simp [wpOpsS, go_sem, Exit.thenS]
  refine wpS_cond (t := false) (by simp [Act.eval, Array.replicate]) ?_
  simp only [Bool.false_eq_true, if_false]
  refine wpS_of_wp (wp_skip ?_)
  cases c₀
  simp_all [bodyPostS, results, Try.results29]
/-- A panic is met: it is recovered, the error is written. -/
theorem catch_pan (n : Int) (v0 v1 : Value) (w : World) (K : World → Prop)
    (h : getX2.wp Try.prog (fun e a w' => e = .normal ∧ a.defers = [] ∧ K w') ⟨#[v0, v1, .int .i64 n, .bool true, .tuple #[.int .i64 n, .bool true], .iface 57 (.int .i64 n), .tuple #[.int .i64 n, .bool true], .int .i64 n, .bool true, .bool true, undef, undef], []⟩ w) :
    CallsD Try.prog 29 #[v0, v1] (.panicking (chE n)) w fun e u' w' => e = .returned (.tuple #[]) ∧ u' = .panicking [{ v := .iface 57 (.int .i64 n), recovered := true }] ∧ K w' := by
  refine callsD_of_wpS (fn := Try.f29) rfl rfl fun c₀ cs hu => ?_
  apply wpS_seq
  apply wpS_region
  have h0 := ta_some (.int .i64 n) w
  unfold chE at hu
  simp [wpOpsS, go_sem, recoverD, hu, Try.ntmps29, Exit.thenS, h0]
  apply wpS_seq
  apply wpS_region
  simp [wpOpsS, go_sem, Exit.thenS]
  refine wpS_cond (t := true) (by simp [Act.eval, Array.replicate]) ?_
  simp only [if_true]
  refine wpS_of_wp ?_
  rw [getX2_eq] at h
  refine wp_act (a := ⟨#[v0, v1, .int .i64 n, .bool true, .tuple #[.int .i64 n, .bool true], .iface 57 (.int .i64 n), .tuple #[.int .i64 n, .bool true], .int .i64 n, .bool true, .bool true, undef, undef], []⟩) ?_ (wp_mono h ?_)
  · simp [Array.replicate]
  rintro e a w' ⟨rfl, hd, hK⟩
  cases c₀
  simp_all [bodyPostS, results, Try.results29]
end Go.Proofs.Ytekpgcohlpkmnaa
