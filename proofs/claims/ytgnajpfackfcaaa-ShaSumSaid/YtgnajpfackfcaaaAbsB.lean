/- The abstract machine's operations that only compute: what they answer, and that the model's operations answer so. No condition. -/
import Derived.Test.YtgnajpfackfcaaaAbsA
set_option linter.unusedVariables false
set_option linter.unusedSimpArgs false
namespace Go.Abs

def AV.dem0 : AV → AV
  | .os _ sz es => .pv (.sl sz es)
  | a => a
def AV.dem1 : AV → AV
  | .agg l => .agg (l.map AV.dem0)
  | a => a.dem0
def AV.dem2 : AV → AV
  | .tup l => .tup (l.map AV.dem1)
  | a => a.dem1

inductive Opd where
  | t (n : Nat)
  | c (v : AV)
def ev (s : S) : Opd → AV
  | .t n => s (.t n)
  | .c v => v
/-- As an operand of what only computes. -/
def evd (s : S) : Opd → AV
  | .t n => (s (.t n)).dem2
  | .c v => v

/-- Operations that only compute. -/
inductive POp where
  | id
  | pick
  | bin (op : BinOp)
  | beq (neg : Bool)
  | peq (neg : Bool)
  | aeq (neg : Bool) (n : Nat) (k : IntKind)
  | un (op : UnOp)
  | conv (k : IntKind)
  | field (off : Nat) (n : Option Nat)
  | index (len sz : Nat) (n : Option Nat)
  | fieldAddr (off : Nat)
  | indexAddr (arr : Option Nat) (sz : Nat)
  | slice (arr : Option Nat) (sz : Nat) (lo hi : Bool)
  | s2ap (n : Nat)
  | len (arr : Option Nat)
  | mm (isMax : Bool)
  | ext (i : Nat)
  | nilc

def ibin (op : BinOp) (k : IntKind) (a b : Int) : Option (Prop × PV) :=
  match op with
  | .add => some (True, .int k (k.wrap (a + b)))
  | .sub => some (True, .int k (k.wrap (a - b)))
  | .mul => some (True, .int k (k.wrap (a * b)))
  | .quo => some (b ≠ 0, .int k (k.wrap (a.tdiv b)))
  | .rem => some (b ≠ 0, .int k (a.tmod b))
  | .and => some (True, .int k (bits .and k a b))
  | .or => some (True, .int k (bits .or k a b))
  | .xor => some (True, .int k (bits .xor k a b))
  | .andNot => some (True, .int k (bits .andNot k a b))
  | .eql => some (True, .bool (a == b))
  | .neq => some (True, .bool (a != b))
  | .lss => some (True, .bool (decide (a < b)))
  | .leq => some (True, .bool (decide (a ≤ b)))
  | .gtr => some (True, .bool (decide (b < a)))
  | .geq => some (True, .bool (decide (b ≤ a)))
  | .shl => none
  | .shr => none

def sbin (op : BinOp) (k : IntKind) (a b : Int) : Option (Prop × PV) :=
  match op with
  | .shl => some (0 ≤ b, .int k (k.wrap (a * 2 ^ (min b.toNat k.bits))))
  | .shr => some (0 ≤ b, .int k (a.fdiv (2 ^ (min b.toNat k.bits))))
  | _ => none

def isShift : BinOp → Bool
  | .shl => true
  | .shr => true
  | _ => false

/-- A cell of an aggregate. -/
def getc : AV → Nat → Option AV
  | .pagg l, j => (l[j]?).map AV.pv
  | .agg l, j => (l[j]?).map AV.dem0
  | .rp l, j => (l[j]?).map AV.pv
  | _, _ => none
/-- A run of an aggregate's cells. -/
def getr : AV → Nat → Nat → Option AV
  | .pagg l, o, n => some (.pagg ((l.drop o).take n))
  | .agg l, o, n => some (.agg (((l.drop o).take n).map AV.dem0))
  | .rp l, o, n => some (.pagg ((l.drop o).take n))
  | _, _, _ => none
def part1 (a : AV) (o : Nat) : Option Nat → Option AV
  | none => getc a o
  | some n => getr a o n

def pvPick : List AV → Option (Prop × AV)
  | [.pv (.bool c), x, y] => some (True, if c then x else y)
  | _ => none
def pvBin (op : BinOp) : List AV → Option (Prop × AV)
  | [.pv (.int k a), .pv (.int k' b)] =>
    if isShift op then (sbin op k a b).map fun (c, p) => (c, .pv p)
    else if k = k' then (ibin op k a b).map fun (c, p) => (c, .pv p) else none
  | _ => none
def pvBeq (neg : Bool) : List AV → Option (Prop × AV)
  | [.pv (.bool a), .pv (.bool b)] => some (True, .pv (.bool (if neg then a != b else a == b)))
  | _ => none
def pvPeq (neg : Bool) : List AV → Option (Prop × AV)
  | [.pv .nilp, .pv .nilp] => some (True, .pv (.bool (!neg)))
  | [.ptr _ _, .pv .nilp] => some (True, .pv (.bool neg))
  | [.rp _, .pv .nilp] => some (True, .pv (.bool neg))
  | _ => none
def kPV (k : IntKind) : PV → Bool
  | .int k' _ => decide (k' = k)
  | _ => false
def eqPV : PV → PV → Bool
  | .int _ a, .int _ b => a == b
  | _, _ => false
def eqPVs : List PV → List PV → Bool
  | [], [] => true
  | a :: l, b :: m => eqPV a b && eqPVs l m
  | _, _ => false
def pvAeq (neg : Bool) (n : Nat) (k : IntKind) : List AV → Option (Prop × AV)
  | [.pagg l, .pagg m] => some (l.length = n ∧ m.length = n ∧ l.all (kPV k) = true ∧ m.all (kPV k) = true, .pv (.bool (if neg then !eqPVs l m else eqPVs l m)))
  | _ => none
def pvUn (op : UnOp) : List AV → Option (Prop × AV)
  | [.pv (.bool b)] => if op = .not then some (True, .pv (.bool !b)) else none
  | [.pv (.int k n)] => if op = .neg then some (True, .pv (.int k (k.wrap (0 - n)))) else if op = .xor then some (True, .pv (.int k (bits .xor k (if k.signed then -1 else k.max) n))) else none
  | _ => none
def pvConv (k : IntKind) : List AV → Option (Prop × AV)
  | [.pv (.int _ n)] => some (True, .pv (.int k (k.wrap n)))
  | _ => none
def pvField (o : Nat) (n : Option Nat) : List AV → Option (Prop × AV)
  | [.pagg l] => (part1 (.pagg l) o n).map fun r => (True, r)
  | [.agg l] => (part1 (.agg l) o n).map fun r => (True, r)
  | _ => none
def pvIndex (len sz : Nat) (n : Option Nat) : List AV → Option (Prop × AV)
  | [.pagg l, .pv (.int _ i)] => (part1 (.pagg l) (i.toNat * sz) n).map fun r => (0 ≤ i ∧ i < len, r)
  | [.agg l, .pv (.int _ i)] => (part1 (.agg l) (i.toNat * sz) n).map fun r => (0 ≤ i ∧ i < len, r)
  | _ => none
def pvFieldAddr (o : Nat) : List AV → Option (Prop × AV)
  | [.ptr x p] => some (True, .ptr x (p + o))
  | [.rp l] => some (True, .rp (l.drop o))
  | _ => none
def pvIndexArr (n sz : Nat) : List AV → Option (Prop × AV)
  | [.ptr x p, .pv (.int _ i)] => some (0 ≤ i ∧ i < n, .ptr x (p + i.toNat * sz))
  | [.rp l, .pv (.int _ i)] => some (0 ≤ i ∧ i < n, .rp (l.drop (i.toNat * sz)))
  | _ => none
def pvIndexSl (sz : Nat) : List AV → Option (Prop × AV)
  | [.pv (.sl sz' es), .pv (.int _ i)] => match es[i.toNat]? with
    | some r => some (0 ≤ i ∧ sz' = sz, .rp r)
    | none => none
  | [.sr x o len sz', .pv (.int _ i)] => some (0 ≤ i ∧ i < len ∧ sz' = sz, .ptr x (o + i.toNat * sz))
  | _ => none
/-- The bounds of a slice expression. -/
def bnds (n : Nat) (lo hi : Bool) : List AV → Option (Prop × Nat × Nat)
  | [] => if lo = false ∧ hi = false then some (True, 0, n) else none
  | [.pv (.int _ i)] => if lo = true ∧ hi = false then some (0 ≤ i ∧ i ≤ n, i.toNat, n) else if lo = false ∧ hi = true then some (0 ≤ i ∧ i ≤ n, 0, i.toNat) else none
  | [.pv (.int _ i), .pv (.int _ j)] => if lo = true ∧ hi = true then some (0 ≤ i ∧ i ≤ j ∧ j ≤ n, i.toNat, j.toNat) else none
  | _ => none
def pvSliceSl (sz : Nat) (lo hi : Bool) : List AV → Option (Prop × AV)
  | .pv (.sl sz' es) :: r => (bnds es.length lo hi r).map fun (c, a, b) => (sz' = sz ∧ c, .pv (.sl sz ((es.take b).drop a)))
  | .sr x o n sz' :: r => (bnds n lo hi r).map fun (c, a, b) => (sz' = sz ∧ c ∧ a < n, .sr x (o + a * sz) (b - a) sz)
  | _ => none
def pvSliceArr (n sz : Nat) (lo hi : Bool) : List AV → Option (Prop × AV)
  | .ptr x o :: r => (bnds n lo hi r).map fun (c, a, b) => (c ∧ a < n, .sr x (o + a * sz) (b - a) sz)
  | _ => none
def pvS2ap (n : Nat) : List AV → Option (Prop × AV)
  | [.sr x o len _] => some (n ≤ len, .ptr x o)
  | [.pv (.sl _ es)] => some (n ≤ es.length ∧ 0 < es.length, .rp es.flatten)
  | _ => none
def pvLen (arr : Option Nat) : List AV → Option (Prop × AV)
  | [.pv (.sl _ es)] => if arr = none then some (True, .pv (.int .i64 es.length)) else none
  | [.sr _ _ n _] => if arr = none then some (True, .pv (.int .i64 n)) else none
  | [_] => match arr with
    | some n => some (True, .pv (.int .i64 n))
    | none => none
  | _ => none
def pvMm (isMax : Bool) : List AV → Option (Prop × AV)
  | [.pv (.int k a), .pv (.int k' b)] => if k = k' then some (True, .pv (.int k (if isMax then (if b > a then b else a) else (if b < a then b else a)))) else none
  | _ => none
def pvExt (i : Nat) : List AV → Option (Prop × AV)
  | [.tup l] => (l[i]?).map fun r => (True, r)
  | _ => none

def pvNilc : List AV → Option (Prop × AV)
  | [.ptr x p] => some (True, .ptr x p)
  | [.rp l] => some (True, .rp l)
  | _ => none

def pval : POp → List AV → Option (Prop × AV)
  | .id, [x] => some (True, x)
  | .id, _ => none
  | .pick, l => pvPick l
  | .bin op, l => pvBin op l
  | .beq n, l => pvBeq n l
  | .peq n, l => pvPeq n l
  | .aeq neg n k, l => pvAeq neg n k l
  | .un op, l => pvUn op l
  | .conv k, l => pvConv k l
  | .field o n, l => pvField o n l
  | .index len sz n, l => pvIndex len sz n l
  | .fieldAddr o, l => pvFieldAddr o l
  | .indexAddr (some n) sz, l => pvIndexArr n sz l
  | .indexAddr none sz, l => pvIndexSl sz l
  | .slice none sz lo hi, l => pvSliceSl sz lo hi l
  | .slice (some n) sz lo hi, l => pvSliceArr n sz lo hi l
  | .s2ap n, l => pvS2ap n l
  | .len arr, l => pvLen arr l
  | .mm m, l => pvMm m l
  | .ext i, l => pvExt i l
  | .nilc, l => pvNilc l

def okC : AV → Value → Bool
  | .pv (.bool a), .bool b => a == b
  | .pv (.int k a), .int k' b => decide (k = k') && decide (a = b)
  | .pv .nilp, .pointer none => true
  | .os _ sz [], .slice none 0 0 => decide (0 < sz)
  | .pv (.sl _ []), .slice none 0 0 => true
  | _, _ => false
def okX : Opd → Operand → Bool
  | .t n, .tmp m => n == m
  | .c (.fn f), .func g => f == g
  | .c v, .const u => okC v u
  | _, _ => false
def okXs : List Opd → List Operand → Bool
  | [], [] => true
  | x :: xs, y :: ys => okX x y && okXs xs ys
  | _, _ => false

def uBool (P : Program) (t : TypeId) : Bool := match P.underlying t with | some .bool => true | _ => false
def uInt (P : Program) (t : TypeId) (k : IntKind) : Bool := match P.underlying t with | some (.int k') => decide (k = k') | _ => false
def uPtr (P : Program) (t : TypeId) : Bool := match P.underlying t with | some (.pointer _) => true | _ => false
def uSlice (P : Program) (t e : TypeId) : Bool := match P.underlying t with | some (.slice e') => e == e' | _ => false
def uArr (P : Program) (t : TypeId) (n : Nat) (e : TypeId) : Bool := match P.underlying t with | some (.array n' e') => n == n' && e == e' | _ => false
def hasU (P : Program) (t : TypeId) : Bool := (P.underlying t).isSome
def szOf (P : Program) (t : TypeId) (n : Nat) : Bool := decide ((P.info? t).map (·.size) = some n)
def isAggT (P : Program) (t : TypeId) : Option Bool := match P.underlying t with
  | some (.struct _) => some true
  | some (.array _ _) => some true
  | some _ => some false
  | none => none
/-- How a part of type t is read: a cell, or a run of n cells. -/
def okPart (P : Program) (t : TypeId) (n : Option Nat) : Bool := match n with
  | none => decide (isAggT P t = some false) && szOf P t 1
  | some n => decide (isAggT P t = some true) && szOf P t n
def elemOfT (P : Program) (t : TypeId) : Option TypeId := match P.underlying t with
  | some (.slice e) => some e
  | some (.array _ e) => some e
  | _ => none
def fieldOf (P : Program) (t : TypeId) (f : Nat) : Option Field := match P.underlying t with
  | some (.struct fs) => fs[f]?
  | _ => none
def arrOf (P : Program) (t : TypeId) : Option (Option Nat × TypeId) := match P.underlying t with
  | some (.slice e) => some (none, e)
  | some (.array n e) => some (some n, e)
  | _ => none
def okArr (P : Program) (t : TypeId) (arr : Option Nat) (sz : Nat) : Bool := match arrOf P t with
  | some (arr', e) => decide (arr = arr') && szOf P e sz && decide (0 < sz)
  | none => false

/-- Is the model's operation the abstract one? -/
def okP (P : Program) : POp → List Opd → Op → Bool
  | .id, xs, .move y => okXs xs [y]
  | .id, xs, .assign y => okXs xs [y]
  | .nilc, xs, .nilCheck y => okXs xs [y]
  | .pick, xs, .pick c a b => okXs xs [c, a, b]
  | .bin op, xs, .binOp op' _ x y _ => decide (op = op') && okXs xs [x, y]
  | .beq neg, xs, .binOp op t x y _ => decide (op = if neg then .neq else .eql) && uBool P t && okXs xs [x, y]
  | .peq neg, xs, .binOp op t x y _ => decide (op = if neg then .neq else .eql) && uPtr P t && okXs xs [x, y]
  | .aeq neg n k, xs, .binOp op t x y _ => decide (op = if neg then .neq else .eql) && (match P.underlying t with
    | some (.array n' e) => n == n' && uInt P e k && szOf P e 1
    | _ => false) && !(P.eqGuardType P.depth t) && okXs xs [x, y]
  | .un op, xs, .unOp op' _ x => decide (op = op') && okXs xs [x]
  | .conv k, xs, .convert s d x => hasU P s && uInt P d k && okXs xs [x]
  | .field off n, xs, .field t x f => (match fieldOf P t f with
    | some fd => fd.offset == off && okPart P fd.type n
    | none => false) && okXs xs [x]
  | .index len sz n, xs, .index t x i => (match arrOf P t with
    | some (some len', e) => len == len' && szOf P e sz && okPart P e n
    | _ => false) && okXs xs [x, i]
  | .fieldAddr off, xs, .fieldAddr t x f => (match fieldOf P t f with
    | some fd => fd.offset == off && (match (P.info? fd.type).map (·.size) with
      | some (_ + 1) => true
      | _ => false)
    | none => false) && okXs xs [x]
  | .indexAddr arr sz, xs, .indexAddr t x i => okArr P t arr sz && okXs xs [x, i]
  | .slice arr sz lo hi, xs, .slice t x l h mx => okArr P t arr sz && decide (arr.getD 0 ≤ 1000000) && decide (lo = l.isSome) && decide (hi = h.isSome) && mx.isNone && okXs xs (x :: (l.toList ++ h.toList))
  | .s2ap n, xs, .sliceToArrayPointer t x => (match P.underlying t with
    | some (.array n' _) => n == n'
    | _ => false) && okXs xs [x]
  | .len arr, xs, .call c => (match c.callee with
    | .builtin .len => (match c.argTypes.toList with
      | [t] => (match arrOf P t with
        | some (arr', _) => decide (arr = arr')
        | none => false)
      | _ => false)
    | _ => false) && okXs xs c.args.toList
  | .mm isMax, xs, .call c => (match c.callee with
    | .builtin .max => isMax
    | .builtin .min => !isMax
    | _ => false) && okXs xs c.args.toList
  | .ext i, xs, .extract x i' => i == i' && okXs xs [x]
  | _, _, _ => false

section
variable {fp : Nat → Nat → Prop} {site : Nat → Option Nat} {w : World}

/-- A value that nothing is owned by. -/
def V2 (fp : Nat → Nat → Prop) (site : Nat → Option Nat) (w : World) (v : Value) (a : AV) : Prop := VR2 fp site w v a (fun _ => none)

theorem okC_sound {a : AV} {u : Value} (h : okC a u = true) : V2 fp site w u a := by
  unfold okC at h
  split at h
  · rename_i a b; simp at h; subst h; exact ⟨⟨.bool _, rfl⟩, fun _ _ => rfl⟩
  · rename_i k a k' b; simp at h; obtain ⟨rfl, rfl⟩ := h; exact ⟨⟨.int _ _, rfl⟩, fun _ _ => rfl⟩
  · exact ⟨⟨.nilp, rfl⟩, fun _ _ => rfl⟩
  · rename_i e sz
    simp at h
    exact ⟨⟨[], World.ownsRow_nil w 0 e sz, PRs.nil _ _, by simp, h, Or.inl ⟨rfl, rfl⟩⟩, fun _ _ => rfl⟩
  · exact ⟨⟨.sl0 _ _ _ (Nat.zero_le _) (fun _ => rfl), rfl⟩, fun _ _ => rfl⟩
  · cases h
end
end Go.Abs
