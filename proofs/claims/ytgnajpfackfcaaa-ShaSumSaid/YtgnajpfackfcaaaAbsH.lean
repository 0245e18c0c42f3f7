/- The abstract machine's operations on memory: what they are. No condition. -/
import Derived.Test.YtgnajpfackfcaaaAbsG
set_option linter.unusedVariables false
set_option linter.unusedSimpArgs false
namespace Go.Abs
open Go.RowKit

inductive IOp where
  | p (d : Nat) (o : POp) (xs : List Opd)
  | mv (d n : Nat)
  | alloc (d : Nat) (z : AV)
  | box (d : Nat) (x : Opd)
  | build (d : Nat) (z : AV) (ps : List (Nat × Nat × Opd))
  | bslice (d e sz n : Nat) (z : List PV) (ps : List (Nat × Opd))
  | mks (d : Nat) (z : List PV) (x : Opd)
  | load (d : Nat) (n : Option (Nat × Bool)) (st : Option Nat) (x : Opd)
  | loadmv (d : Nat) (st : Option Nat) (x : Opd)
  | store (n : Option (Nat × Bool)) (st : Option Nat) (x v : Opd)
  | storemv (st : Option Nat) (x : Opd) (n : Nat)
  | app (d e sz n : Nat) (st : Option Nat) (x : Opd)
  | fzb (d n : Nat)
  | copy (d v : Nat) (st : Option Nat) (x y : Opd)
  | call (d f : Nat) (xs : List Opd) (lent news frz : List Nat)

def AV.storable : AV → Bool
  | .pv _ => true
  | .os _ _ _ => true
  | .ptr _ _ => true
  | .rp _ => true
  | .sr _ _ _ _ => true
  | .fn _ => true
  | _ => false

/-- An aggregate, some of its cells replaced. -/
def putA : AV → Nat → AV → Option (Prop × AV)
  | .pagg l, o, .pv p => some (o < l.length, .pagg (l.set o p))
  | .pagg l, o, .pagg lv => some (o + lv.length ≤ l.length, .pagg (l.take o ++ lv ++ l.drop (o + lv.length)))
  | .pagg l, o, .agg lv => some (o + lv.length ≤ l.length ∧ lv.all AV.storable = true, .agg ((l.take o).map AV.pv ++ lv ++ (l.drop (o + lv.length)).map AV.pv))
  | .pagg l, o, v => if v.storable then some (o < l.length, .agg ((l.map AV.pv).set o v)) else none
  | .agg l, o, .pagg lv => some (o + lv.length ≤ l.length, .agg (l.take o ++ lv.map AV.pv ++ l.drop (o + lv.length)))
  | .agg l, o, .agg lv => some (o + lv.length ≤ l.length ∧ lv.all AV.storable = true, .agg (l.take o ++ lv ++ l.drop (o + lv.length)))
  | .agg l, o, v => if v.storable then some (o < l.length, .agg (l.set o v)) else none
  | _, _, _ => none

def toCells : AV → Option AV
  | .pagg l => some (.pagg l)
  | .agg l => some (.agg l)
  | .pv p => some (.pagg [p])
  | v => if v.storable then some (.agg [v]) else none

def avSize : AV → Nat
  | .pagg l => l.length
  | .agg l => l.length
  | _ => 1
def fillA (s : S) : AV → List (Nat × Nat × Opd) → Option (Prop × AV)
  | z, [] => some (True, z)
  | z, (o, n, x) :: r => match putA z o (ev s x).dem2 with
    | some (c, z') => match fillA s z' r with
      | some (c', z'') => some (avSize (ev s x).dem2 = n ∧ c ∧ c', z'')
      | none => none
    | none => none

def cellsPV : AV → Option (List PV)
  | .pv p => some [p]
  | .pagg l => some l
  | _ => none
def fillR (s : S) (sz : Nat) : List (List PV) → List (Nat × Opd) → Option (Prop × List (List PV))
  | rows, [] => some (True, rows)
  | rows, (i, x) :: r => match cellsPV (ev s x).dem2 with
    | some row => match fillR s sz (rows.set i row) r with
      | some (c, rows') => some (row.length = sz ∧ i < rows.length ∧ c, rows')
      | none => none
    | none => none

def stOk (st : Option Nat) (y : Nat) : Bool := match st with
  | none => true
  | some x => x == y

/-- Loads of a run of cells: the whole content, or a part of it. -/
def loadA (c : AV) (o : Nat) : Option (Nat × Bool) → Option (Prop × AV)
  | none => (getc c o).map fun r => (True, r)
  | some (k, true) => match c with
    | .pagg l => some (o = 0 ∧ l.length = k, .pagg l)
    | .rp l => some (o = 0 ∧ l.length = k, .pagg l)
    | .agg l => some (o = 0 ∧ l.length = k, .agg (l.map AV.dem0))
    | _ => none
  | some (k, false) => match c with
    | .pagg l => some (o + k ≤ l.length, .pagg ((l.drop o).take k))
    | .rp l => some (o + k ≤ l.length, .pagg ((l.drop o).take k))
    | .agg l => some (o + k ≤ l.length, .agg (((l.drop o).take k).map AV.dem0))
    | _ => none

/-- Stores of a run of cells. -/
def storeA (c : AV) (o : Nat) (v : AV) : Option (Nat × Bool) → Option (Prop × AV)
  | none => if v.storable then putA c o v else none
  | some (k, true) => match c, v with
    | .pagg l, .pagg lv => some (o = 0 ∧ lv.length = k ∧ l.length = k, .pagg lv)
    | .pagg l, .agg lv => some (o = 0 ∧ lv.length = k ∧ l.length = k ∧ lv.all AV.storable = true, .agg lv)
    | .agg l, .pagg lv => some (o = 0 ∧ lv.length = k ∧ l.length = k, .pagg lv)
    | .agg l, .agg lv => some (o = 0 ∧ lv.length = k ∧ l.length = k ∧ lv.all AV.storable = true, .agg lv)
    | _, _ => none
  | some (k, false) => match v with
    | .pagg lv => (putA c o v).map fun (c, r) => (lv.length = k ∧ c, r)
    | .agg lv => (putA c o v).map fun (c, r) => (lv.length = k ∧ c, r)
    | _ => none

/-- The rows of what is appended. -/
def rowsA (s : S) (st : Option Nat) : AV → Option (Prop × Nat × List (List PV))
  | .pv (.sl sz es) => some (True, sz, es)
  | .os _ sz es => some (True, sz, es)
  | .sr y o n sz => if sz = 1 ∧ st = some y then (match s (.m y) with
    | .pagg l => some (o + n ≤ l.length, 1, ((l.drop o).take n).map fun p => [p])
    | _ => none) else none
  | _ => none

def eff (s : S) : IOp → Option (Prop × List (Key × AV))
  | .p d o xs => match pval o (xs.map (evd s)) with
    | some (c, r) => some (c, [(.t d, r)])
    | none => none
  | .mv d n => some (True, [(.t n, (s (.t n)).dem2), (.t d, s (.t n))])
  | .alloc d z => some (True, [(.m d, z), (.t d, .ptr d 0)])
  | .box d x => match toCells (ev s x).dem2 with
    | some z => some (True, [(.m d, z), (.t d, .ptr d 0)])
    | none => none
  | .build d z ps => match fillA s z ps with
    | some (c, r) => some (c, [(.t d, r)])
    | none => none
  | .bslice d e sz n z ps => match fillR s sz (List.replicate n z) ps with
    | some (c, rows) => some (c, [(.t d, .os e sz rows)])
    | none => none
  | .mks d z x => match (ev s x).dem2 with
    | .pv (.int _ n) => some (0 ≤ n ∧ n ≤ 100000000000, [(.m d, .pagg (List.replicate n.toNat z).flatten), (.t d, .sr d 0 n.toNat z.length)])
    | _ => none
  | .load d n st x => match ev s x with
    | .ptr y o => if stOk st y then (match loadA (s (.m y)) o n with
      | some (c, r) => some (c, [(.t d, r)])
      | none => none) else none
    | .rp l => match loadA (.rp l) 0 n with
      | some (c, r) => some (c, [(.t d, r)])
      | none => none
    | _ => none
  | .loadmv d st x => match ev s x with
    | .ptr y o => if stOk st y then (match s (.m y) with
      | .agg l => match l[o]? with
        | some (.os e sz es) => some (True, [(.m y, .agg (l.set o (.pv (.sl sz es)))), (.t d, .os e sz es)])
        | _ => none
      | _ => none) else none
    | _ => none
  | .store n st x v => match ev s x with
    | .ptr y o => if stOk st y then (match storeA (s (.m y)) o (ev s v).dem2 n with
      | some (c, r) => some (c, [(.m y, r)])
      | none => none) else none
    | _ => none
  | .storemv st x n => match ev s x with
    | .ptr y o => if stOk st y then (match s (.t n) with
      | .os e sz es => match s (.m y) with
        | .pagg l => some (o < l.length, [(.t n, .pv (.sl sz es)), (.m y, .agg ((l.map AV.pv).set o (.os e sz es)))])
        | .agg l => some (o < l.length, [(.t n, .pv (.sl sz es)), (.m y, .agg (l.set o (.os e sz es)))])
        | _ => none
      | _ => none) else none
    | _ => none
  | .app d e sz n st x => match s (.t n) with
    | .os e' sz' es => match rowsA s st (ev s x) with
      | some (c, szx, rows) => some ((e' = e ∧ sz' = sz ∧ szx = sz) ∧ c ∧ es.length + rows.length ≤ 100000000000, [(.t n, .pv (.sl sz es)), (.t d, .os e sz (es ++ rows))])
      | none => none
    | _ => none
  | .fzb d n => match s (.t n) with
    | .os _ sz es => some (0 < es.length, [(.t n, .pv (.sl sz es)), (.t d, .pv (.sl sz es))])
    | _ => none
  | .copy d v st x y => match ev s x with
    | .sr v' o n sz => if v' = v then (match s (.m v) with
      | .pagg l => match rowsA s st (ev s y) with
        | some (c, szx, rows) => some (c ∧ szx = 1 ∧ sz = 1 ∧ o + n ≤ l.length, [(.m v, .pagg (l.take o ++ (rows.take n).flatten ++ l.drop (o + min rows.length n))), (.t d, .pv (.int .i64 (min rows.length n : Nat)))])
        | none => none
      | _ => none) else none
    | _ => none
  | .call _ _ _ _ _ _ => none

def okCells : AV → List Value → Bool
  | .pagg l, cs => l.length == cs.length && (l.zip cs).all fun (p, v) => okC (.pv p) v
  | .agg l, cs => l.length == cs.length && (l.zip cs).all fun (p, v) => okC p v
  | _, _ => false
def zeroOf (P : Program) (e : TypeId) : Option Value := (P.info? e).bind (·.zero)
def okZero (P : Program) (e : TypeId) (z : AV) : Bool := match zeroOf P e with
  | some zv => okCells z zv.cells.toList
  | none => false
def okDst (N : Nat) (d : Nat) (o : Oper) : Bool := decide (o.dst = some d) && decide (d < N)
def okPlaces (place : Nat → Option (Nat × Nat)) : List (Nat × Nat × Opd) → List (Nat × Operand) → Bool
  | [], [] => true
  | (o, n, x) :: r, (i, y) :: r' => decide (place i = some (o, n)) && okX x y && okPlaces place r r'
  | _, _ => false
def okRows : List (Nat × Opd) → List (Nat × Operand) → Bool
  | [], [] => true
  | (j, x) :: r, (i, y) :: r' => i == j && okX x y && okRows r r'
  | _, _ => false
def okLoadT (P : Program) (t : TypeId) : Option (Nat × Bool) → Bool
  | none => decide (isAggT P t = some false) && szOf P t 1
  | some (k, _) => decide (isAggT P t = some true) && szOf P t k

def okI (P : Program) (N : Nat) (i : IOp) (o : Oper) : Bool :=
  match i with
  | .p d po xs => okDst N d o && okP P po xs o.op
  | .mv d n => okDst N d o && n != d && (match o.op with
    | .move (.tmp m) => m == n
    | .assign (.tmp m) => m == n
    | _ => false)
  | .alloc d z => okDst N d o && (match o.op with
    | .alloc e => okZero P e z
    | _ => false)
  | .box d x => okDst N d o && (match o.op with
    | .box _ y => okX x y
    | _ => false)
  | .build d z ps => okDst N d o && (match o.op with
    | .build t ps' => okZero P t z && (match P.underlying t with
      | some (.struct fs) => (match fs.toList.mapM (fun f => (P.info? f.type).map fun i => (f.offset, i.size)) with
        | some places => okPlaces (places.toArray[·]?) ps ps'.toList
        | none => false)
      | some (.array _ el) => (match (P.info? el).map (·.size) with
        | some sz => okPlaces (fun i => some (i * sz, sz)) ps ps'.toList
        | none => false)
      | _ => false)
    | _ => false)
  | .bslice d e sz n z ps => okDst N d o && (match o.op with
    | .buildSlice t n' ps' => n == n' && uSlice P t e && szOf P e sz && decide (0 < sz) && decide (n * sz ≤ 16777216) && okZero P e (.pagg z) && z.length == sz && okRows ps ps'.toList
    | _ => false)
  | .mks d z x => okDst N d o && (match o.op with
    | .makeSlice t l c => okX x l && okX x c && (match P.underlying t with
      | some (.slice e) => szOf P e z.length && decide (0 < z.length) && okZero P e (.pagg z) && (match (P.info? e).map (·.bytes) with
        | some by' => decide (by' ≤ 1000)
        | none => false)
      | _ => false)
    | _ => false)
  | .load d n st x => okDst N d o && (match o.op with
    | .load t y => okLoadT P t n && okX x y
    | _ => false)
  | .loadmv d st x => okDst N d o && (match o.op with
    | .load t y => okLoadT P t none && okX x y
    | _ => false)
  | .store n st x v => decide (o.dst = none) && (match o.op with
    | .store t y u => okLoadT P t n && okX x y && okX v u
    | _ => false)
  | .storemv st x n => decide (o.dst = none) && (match o.op with
    | .store t y (.tmp m) => okLoadT P t none && okX x y && m == n
    | _ => false)
  | .app d e sz n st x => okDst N d o && n != d && (match o.op with
    | .call c => (match c.callee with
      | .builtin .append => (match c.args.toList, c.argTypes.toList with
        | [.tmp m, y], [t, t'] => m == n && okX x y && t == t' && uSlice P t e && szOf P e sz && decide (0 < sz) && (match (P.info? e).map (·.bytes) with
          | some by' => decide (by' ≤ 1000)
          | none => false) && (match zeroOf P e with
          | some zv => zv.cells.size == sz
          | none => false)
        | _, _ => false)
      | _ => false)
    | _ => false)
  | .fzb d n => okDst N d o && n != d && (match o.op with
    | .convert t t' (.tmp m) => m == n && t == t' && (match P.underlying t with
      | some (.slice e) => uInt P e .u8
      | _ => false)
    | _ => false)
  | .copy d _ _ x y => okDst N d o && (match o.op with
    | .call c => (match c.callee with
      | .builtin .copy => (match c.args.toList, c.argTypes.toList with
        | [ux, uy], [t, _] => okX x ux && okX y uy && (match P.underlying t with
          | some (.slice e) => szOf P e 1
          | _ => false)
        | _, _ => false)
      | _ => false)
    | _ => false)
  | .call _ _ _ _ _ _ => false

/-- The sites that an operation makes. -/
def IOp.makes : IOp → List Nat
  | .alloc d _ => [d]
  | .box d _ => [d]
  | .mks d _ _ => [d]
  | .call _ _ _ _ news _ => news
  | _ => []
end Go.Abs
