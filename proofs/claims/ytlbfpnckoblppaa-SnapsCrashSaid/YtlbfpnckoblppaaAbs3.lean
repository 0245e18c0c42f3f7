/- The abstract machine: operations on memory and on maps, and that the model's operations answer so. No condition. -/
import Derived.Test.YtlbfpnckoblppaaAbs1
import Derived.Great.BuildSlice
import Derived.Laws.MakeOwn
import Derived.MapKept
import Derived.ChangeKeysEq
set_option linter.unusedVariables false
set_option linter.unusedSimpArgs false
section
/- The abstract machine's operations on memory: what they are. No condition. -/
namespace Go.Abs
open Go.RowKit

/-- The one table that a program may read: where it lies in the first place of all package-level variables. -/
def deBruijn : List Nat := [0, 1, 28, 2, 29, 14, 24, 3, 30, 22, 20, 15, 25, 17, 4, 8, 31, 27, 13, 23, 21, 19, 16, 7, 26, 12, 18, 6, 11, 5, 10, 9]
def gtOf (P : Program) : List Nat := if P.globalNamed "math/bits.deBruijn32tab" = some 0 then deBruijn else []
/-- What a call may read of it. -/
def GlOK (P : Program) (X : Ctx) : Prop := ∀ (j n : Nat), (gtOf P)[j]? = some n → X.ok 0 j ∧ X.w0.cell? ⟨0, j, none⟩ = some (.int .u8 (n : Int))
inductive IOp where
  | p (d : Nat) (o : POp) (xs : List Opd)
  | mv (d n : Nat)
  | alloc (d : Nat) (z : AV)
  | box (d : Nat) (x : Opd)
  | build (d : Nat) (z : AV) (ps : List (Nat × Nat × Opd))
  | bslice (d e sz n : Nat) (z : List PV) (ps : List (Nat × Opd))
  | mks (d : Nat) (z : List PV) (x : Opd)
  | load (d : Nat) (n : Option (Nat × Bool)) (st : Option Nat) (x : Opd)
  | loadmv (d : Nat) (st : Option Nat) (x : Opd)
  | store (n : Option (Nat × Bool)) (st : Option Nat) (x v : Opd)
  | storemv (st : Option Nat) (x : Opd) (n : Nat)
  | storemva (k : Nat) (st : Option Nat) (x : Opd) (n : Nat)
  | app (d e sz n : Nat) (st : Option Nat) (x : Opd)
  | fzb (d n : Nat)
  | rbox (d : Nat) (x : Opd)
  | gidx (d : Nat) (tab : List Nat) (x : Opd)
  | copy (d v : Nat) (st : Option Nat) (x y : Opd)
  | mkmap (d : Nat) (ag : Bool) (ks : List CK)
  | mlook (d : Nat) (cok ag : Bool) (ks : List CK) (zv : PV) (st : Option Nat) (x k : Opd)
  | mupd (ag : Bool) (ks : List CK) (st : Option Nat) (x k v : Opd)
  | mdel (ag : Bool) (ks : List CK) (st : Option Nat) (x k : Opd)
  | boxmv (d n : Nat)
  | mk0 (d e sz : Nat)
  | appx (d e sz n : Nat) (st : Option Nat) (x : Opd)
  | call (d f : Nat) (xs : List Opd) (lent news frz : List Nat)
  | callv (d t f : Nat) (xs : List Opd)

def AV.storable : AV → Bool
  | .pv _ => true
  | .os _ _ _ => true
  | .ptr _ _ => true
  | .rp _ => true
  | .sr _ _ _ _ => true
  | .fn _ => true
  | .mp _ => true
  | _ => false

/-- An aggregate, some of its cells replaced. -/
def putA : AV → Nat → AV → Option (Prop × AV)
  | .pagg l, o, .pv p => some (o < l.length, .pagg (l.set o p))
  | .pagg l, o, .pagg lv => some (o + lv.length ≤ l.length, .pagg (l.take o ++ lv ++ l.drop (o + lv.length)))
  | .pagg l, o, .agg lv => some (o + lv.length ≤ l.length ∧ lv.all AV.storable = true, .agg ((l.take o).map AV.pv ++ lv ++ (l.drop (o + lv.length)).map AV.pv))
  | .pagg l, o, v => if v.storable then some (o < l.length, .agg ((l.map AV.pv).set o v)) else none
  | .agg l, o, .pagg lv => some (o + lv.length ≤ l.length, .agg (l.take o ++ lv.map AV.pv ++ l.drop (o + lv.length)))
  | .agg l, o, .agg lv => some (o + lv.length ≤ l.length ∧ lv.all AV.storable = true, .agg (l.take o ++ lv ++ l.drop (o + lv.length)))
  | .agg l, o, v => if v.storable then some (o < l.length, .agg (l.set o v)) else none
  | _, _, _ => none

def toCells : AV → Option AV
  | .pagg l => some (.pagg l)
  | .agg l => some (.agg l)
  | .pv p => some (.pagg [p])
  | v => if v.storable then some (.agg [v]) else none

def avSize : AV → Nat
  | .pagg l => l.length
  | .agg l => l.length
  | _ => 1
def fillA (s : S) : AV → List (Nat × Nat × Opd) → Option (Prop × AV)
  | z, [] => some (True, z)
  | z, (o, n, x) :: r => match putA z o (ev s x).dem2 with
    | some (c, z') => match fillA s z' r with
      | some (c', z'') => some (avSize (ev s x).dem2 = n ∧ c ∧ c', z'')
      | none => none
    | none => none

def cellsPV : AV → Option (List PV)
  | .pv p => some [p]
  | .pagg l => some l
  | _ => none
def fillR (s : S) (sz : Nat) : List (List PV) → List (Nat × Opd) → Option (Prop × List (List PV))
  | rows, [] => some (True, rows)
  | rows, (i, x) :: r => match cellsPV (ev s x).dem2 with
    | some row => match fillR s sz (rows.set i row) r with
      | some (c, rows') => some (row.length = sz ∧ i < rows.length ∧ c, rows')
      | none => none
    | none => none

def stOk (st : Option Nat) (y : Nat) : Bool := match st with
  | none => true
  | some x => x == y

/-- Loads of a run of cells: the whole content, or a part of it. -/
def loadA (c : AV) (o : Nat) : Option (Nat × Bool) → Option (Prop × AV)
  | none => (getc c o).map fun r => (True, r)
  | some (k, true) => match c with
    | .pagg l => some (o = 0 ∧ l.length = k, .pagg l)
    | .rp l => some (o = 0 ∧ l.length = k, .pagg l)
    | .agg l => some (o = 0 ∧ l.length = k, normA (l.map AV.dem0))
    | _ => none
  | some (k, false) => match c with
    | .pagg l => some (o + k ≤ l.length, .pagg ((l.drop o).take k))
    | .rp l => some (o + k ≤ l.length, .pagg ((l.drop o).take k))
    | .agg l => some (o + k ≤ l.length, normA (((l.drop o).take k).map AV.dem0))
    | _ => none

/-- Stores of a run of cells. -/
def storeA (c : AV) (o : Nat) (v : AV) : Option (Nat × Bool) → Option (Prop × AV)
  | none => if v.storable then putA c o v else none
  | some (k, true) => match c, v with
    | .pagg l, .pagg lv => some (o = 0 ∧ lv.length = k ∧ l.length = k, .pagg lv)
    | .pagg l, .agg lv => some (o = 0 ∧ lv.length = k ∧ l.length = k ∧ lv.all AV.storable = true, .agg lv)
    | .agg l, .pagg lv => some (o = 0 ∧ lv.length = k ∧ l.length = k, .pagg lv)
    | .agg l, .agg lv => some (o = 0 ∧ lv.length = k ∧ l.length = k ∧ lv.all AV.storable = true, .agg lv)
    | _, _ => none
  | some (k, false) => match v with
    | .pagg lv => (putA c o v).map fun (c, r) => (lv.length = k ∧ c, r)
    | .agg lv => (putA c o v).map fun (c, r) => (lv.length = k ∧ c, r)
    | _ => none

/-- The rows of what is appended. -/
def rowsA (s : S) (st : Option Nat) : AV → Option (Prop × Nat × List (List PV))
  | .pv (.sl sz es) => some (True, sz, es)
  | .os _ sz es => some (True, sz, es)
  | .sr y o n sz => if sz = 1 ∧ st = some y then (match s (.m y) with
    | .pagg l => some (o + n ≤ l.length, 1, ((l.drop o).take n).map fun p => [p])
    | _ => none) else none
  | _ => none

/-- A key's cells, and whether it is an aggregate. -/
def keyA : AV → Option (Bool × List PV)
  | .pagg l => some (true, l)
  | .pv p => some (false, [p])
  | _ => none
def mfind (kl : List PV) : List (List PV × PV) → Option PV
  | [] => none
  | (k, v) :: r => if eqPVs kl k = true then some v else mfind kl r
def mset (kl : List PV) (p : PV) : List (List PV × PV) → List (List PV × PV)
  | [] => [(kl, p)]
  | (k, v) :: r => if eqPVs kl k = true then (kl, p) :: r else (k, v) :: mset kl p r
def mdrop (kl : List PV) : List (List PV × PV) → List (List PV × PV)
  | [] => []
  | (k, v) :: r => if eqPVs kl k = true then r else (k, v) :: mdrop kl r
/-- The map that a slot points to: its variable, its entries. -/
def atMap (s : S) (st : Option Nat) (ag : Bool) (ks : List CK) : AV → Option (Nat × List (List PV × PV))
  | .mp y => if stOk st y then (match s (.m y) with
    | .mc ag' ks' es => if ag' = ag ∧ ks' = ks then some (y, es) else none
    | _ => none) else none
  | _ => none
def lookA (d : Nat) (cok : Bool) (zv : PV) (r : Option PV) : List (Key × AV) :=
  [(.t d, if cok then .tup [.pv (r.getD zv), .pv (.bool r.isSome)] else .pv (r.getD zv))]

/-- What is stored: a nil slice may be appended to later. -/
def stv (s : S) : Opd → AV
  | .c (.os e sz []) => .os e sz []
  | v => (ev s v).dem2
def eff (s : S) : IOp → Option (Prop × List (Key × AV))
  | .p d o xs => match pval o (xs.map (evd s)) with
    | some (c, r) => some (c, [(.t d, r)])
    | none => none
  | .mv d n => some (True, [(.t n, (s (.t n)).dem2), (.t d, s (.t n))])
  | .alloc d z => some (True, [(.m d, z), (.t d, .ptr d 0)])
  | .box d x => match toCells (ev s x).dem2 with
    | some z => some (True, [(.m d, z), (.t d, .ptr d 0)])
    | none => none
  | .build d z ps => match fillA s z ps with
    | some (c, r) => some (c, [(.t d, r)])
    | none => none
  | .bslice d e sz n z ps => match fillR s sz (List.replicate n z) ps with
    | some (c, rows) => some (c, [(.t d, .os e sz rows)])
    | none => none
  | .mks d z x => match (ev s x).dem2 with
    | .pv (.int _ n) => some (0 ≤ n ∧ n ≤ 100000000000, [(.m d, .pagg (List.replicate n.toNat z).flatten), (.t d, .sr d 0 n.toNat z.length)])
    | _ => none
  | .load d n st x => match ev s x with
    | .ptr y o => if stOk st y then (match loadA (s (.m y)) o n with
      | some (c, r) => some (c, [(.t d, r)])
      | none => none) else none
    | .rp l => match loadA (.rp l) 0 n with
      | some (c, r) => some (c, [(.t d, r)])
      | none => none
    | _ => none
  | .loadmv d st x => match ev s x with
    | .ptr y o => if stOk st y then (match s (.m y) with
      | .agg l => match l[o]? with
        | some (.os e sz es) => some (True, [(.m y, .agg (l.set o (.pv (.sl sz es)))), (.t d, .os e sz es)])
        | _ => none
      | _ => none) else none
    | _ => none
  | .store n st x v => match ev s x with
    | .ptr y o => if stOk st y then (match storeA (s (.m y)) o (stv s v) n with
      | some (c, r) => some (c, [(.m y, r)])
      | none => none) else none
    | _ => none
  | .storemv st x n => match ev s x with
    | .ptr y o => if stOk st y then (match s (.t n) with
      | .os e sz es => match s (.m y) with
        | .pagg l => some (o < l.length, [(.t n, .pv (.sl sz es)), (.m y, .agg ((l.map AV.pv).set o (.os e sz es)))])
        | .agg l => some (o < l.length, [(.t n, .pv (.sl sz es)), (.m y, .agg (l.set o (.os e sz es)))])
        | _ => none
      | _ => none) else none
    | _ => none
  | .storemva k st x n => match ev s x with
    | .ptr y o => if stOk st y then (match s (.t n) with
      | .agg l => match s (.m y) with
        | .pagg l' => some (o = 0 ∧ l.length = k ∧ l'.length = k ∧ l.all AV.storable = true, [(.t n, .agg (l.map AV.dem0)), (.m y, .agg l)])
        | .agg l' => some (o = 0 ∧ l.length = k ∧ l'.length = k ∧ l.all AV.storable = true, [(.t n, .agg (l.map AV.dem0)), (.m y, .agg l)])
        | _ => none
      | _ => none) else none
    | _ => none
  | .app d e sz n st x => match s (.t n) with
    | .os e' sz' es => match rowsA s st (ev s x) with
      | some (c, szx, rows) => some ((e' = e ∧ sz' = sz ∧ szx = sz) ∧ c ∧ es.length + rows.length ≤ 100000000000, [(.t n, .pv (.sl sz es)), (.t d, .os e sz (es ++ rows))])
      | none => none
    | _ => none
  | .mk0 d _ _ => some (True, [(.t d, .e0)])
  | .appx d _ sz n st x => match s (.t n) with
    | .e0 => match rowsA s st (ev s x) with
      | some (c, szx, rows) => if rows.length = 0 then some (c, [(.t d, .pv (.sl sz []))])
        else some (szx = sz ∧ c ∧ rows.length ≤ 100000000000, [(.m d, .pagg rows.flatten), (.t d, .sr d 0 rows.length sz)])
      | none => none
    | _ => none
  | .rbox d x => match toCells (ev s x).dem2 with
    | some (.pagg l) => some (True, [(.t d, .rp l)])
    | _ => none
  | .gidx d tab x => match (ev s x).dem2 with
    | .pv (.int _ i) => some (0 ≤ i ∧ i < (tab.length : Int), [(.t d, .rp [.int .u8 (tab.getD i.toNat 0 : Nat)])])
    | _ => none
  | .fzb d n => match s (.t n) with
    | .os _ sz es => some (0 < es.length, [(.t n, .pv (.sl sz es)), (.t d, .pv (.sl sz es))])
    | _ => none
  | .copy d v st x y => match ev s x with
    | .sr v' o n sz => if v' = v then (match s (.m v) with
      | .pagg l => match rowsA s st (ev s y) with
        | some (c, szx, rows) => some (c ∧ szx = 1 ∧ sz = 1 ∧ o + n ≤ l.length, [(.m v, .pagg (l.take o ++ (rows.take n).flatten ++ l.drop (o + min rows.length n))), (.t d, .pv (.int .i64 (min rows.length n : Nat)))])
        | none => none
      | _ => none) else none
    | _ => none
  | .mkmap d ag ks => some (True, [(.m d, .mc ag ks []), (.t d, .mp d)])
  | .mlook d cok ag ks zv st x k => match atMap s st ag ks (ev s x) with
    | some (_, es) => match keyA (ev s k).dem2 with
      | some (ag', kl) => some (ag' = ag ∧ ckAll ks kl = true, lookA d cok zv (mfind kl es))
      | none => none
    | none => none
  | .mupd ag ks st x k v => match atMap s st ag ks (ev s x) with
    | some (y, es) => match keyA (ev s k).dem2 with
      | some (ag', kl) => match (ev s v).dem2 with
        | .pv p => some (ag' = ag ∧ ckAll ks kl = true, [(.m y, .mc ag ks (mset kl p es))])
        | _ => none
      | none => none
    | none => none
  | .mdel ag ks st x k => match atMap s st ag ks (ev s x) with
    | some (y, es) => match keyA (ev s k).dem2 with
      | some (ag', kl) => some (ag' = ag ∧ ckAll ks kl = true, [(.m y, .mc ag ks (mdrop kl es))])
      | none => none
    | none => none
  | .boxmv d n => match s (.t n) with
    | .agg l => some (l.all AV.storable = true, [(.m d, .agg l), (.t n, .agg (l.map AV.dem0)), (.t d, .ptr d 0)])
    | _ => none
  | .call _ _ _ _ _ _ => none
  | .callv _ _ _ _ => none

def okCells : AV → List Value → Bool
  | .pagg l, cs => l.length == cs.length && (l.zip cs).all fun (p, v) => okC (.pv p) v
  | .agg l, cs => l.length == cs.length && (l.zip cs).all fun (p, v) => okC p v
  | _, _ => false
def zeroOf (P : Program) (e : TypeId) : Option Value := (P.info? e).bind (·.zero)
def okZero (P : Program) (e : TypeId) (z : AV) : Bool := match zeroOf P e with
  | some zv => okCells z zv.cells.toList
  | none => false
def okDst (N : Nat) (d : Nat) (o : Oper) : Bool := decide (o.dst = some d) && decide (d < N)
def okPlaces (place : Nat → Option (Nat × Nat)) : List (Nat × Nat × Opd) → List (Nat × Operand) → Bool
  | [], [] => true
  | (o, n, x) :: r, (i, y) :: r' => decide (place i = some (o, n)) && okX x y && okPlaces place r r'
  | _, _ => false
def okRows : List (Nat × Opd) → List (Nat × Operand) → Bool
  | [], [] => true
  | (j, x) :: r, (i, y) :: r' => i == j && okX x y && okRows r r'
  | _, _ => false
def okLoadT (P : Program) (t : TypeId) : Option (Nat × Bool) → Bool
  | none => decide (isAggT P t = some false) && szOf P t 1
  | some (k, _) => decide (isAggT P t = some true) && szOf P t k

/-- The types of a map's keys and elements. -/
def okMapT (P : Program) (t : TypeId) (ag : Bool) (ks : List CK) : Bool := match P.underlying t with
  | some (.map k _) => decide (eqK P 8 k = some ks) && decide (isAggT P k = some ag)
  | _ => false
def okMapZ (P : Program) (t : TypeId) (zv : PV) : Bool := match P.underlying t with
  | some (.map _ e) => (match zeroOf P e with
    | some z => okC (.pv zv) z
    | none => false)
  | _ => false
def okI (P : Program) (N : Nat) (i : IOp) (o : Oper) : Bool :=
  match i with
  | .p d po xs => okDst N d o && okP P po xs o.op
  | .mv d n => okDst N d o && n != d && (match o.op with
    | .move (.tmp m) => m == n
    | .assign (.tmp m) => m == n
    | _ => false)
  | .alloc d z => okDst N d o && (match o.op with
    | .alloc e => okZero P e z
    | _ => false)
  | .box d x => okDst N d o && (match o.op with
    | .box _ y => okX x y
    | _ => false)
  | .build d z ps => okDst N d o && (match o.op with
    | .build t ps' => okZero P t z && (match P.underlying t with
      | some (.struct fs) => (match fs.toList.mapM (fun f => (P.info? f.type).map fun i => (f.offset, i.size)) with
        | some places => okPlaces (places.toArray[·]?) ps ps'.toList
        | none => false)
      | some (.array _ el) => (match (P.info? el).map (·.size) with
        | some sz => okPlaces (fun i => some (i * sz, sz)) ps ps'.toList
        | none => false)
      | _ => false)
    | _ => false)
  | .bslice d e sz n z ps => okDst N d o && (match o.op with
    | .buildSlice t n' ps' => n == n' && uSlice P t e && szOf P e sz && decide (0 < sz) && decide (n * sz ≤ 16777216) && okZero P e (.pagg z) && z.length == sz && okRows ps ps'.toList
    | _ => false)
  | .mks d z x => okDst N d o && (match o.op with
    | .makeSlice t l c => okX x l && okX x c && (match P.underlying t with
      | some (.slice e) => szOf P e z.length && decide (0 < z.length) && okZero P e (.pagg z) && (match (P.info? e).map (·.bytes) with
        | some by' => decide (by' ≤ 1000)
        | none => false)
      | _ => false)
    | _ => false)
  | .load d n st x => okDst N d o && (match o.op with
    | .load t y => okLoadT P t n && okX x y
    | _ => false)
  | .loadmv d st x => okDst N d o && (match o.op with
    | .load t y => okLoadT P t none && okX x y
    | _ => false)
  | .store n st x v => decide (o.dst = none) && (match o.op with
    | .store t y u => okLoadT P t n && okX x y && okX v u
    | _ => false)
  | .storemv st x n => decide (o.dst = none) && (match o.op with
    | .store t y (.tmp m) => okLoadT P t none && okX x y && m == n
    | _ => false)
  | .storemva k st x n => decide (o.dst = none) && (match o.op with
    | .store t y (.tmp m) => okLoadT P t (some (k, true)) && okX x y && m == n
    | _ => false)
  | .app d e sz n st x => okDst N d o && n != d && (match o.op with
    | .call c => (match c.callee with
      | .builtin .append => (match c.args.toList, c.argTypes.toList with
        | [.tmp m, y], [t, t'] => m == n && okX x y && t == t' && uSlice P t e && szOf P e sz && decide (0 < sz) && (match (P.info? e).map (·.bytes) with
          | some by' => decide (by' ≤ 1000)
          | none => false) && (match zeroOf P e with
          | some zv => zv.cells.size == sz
          | none => false)
        | _, _ => false)
      | _ => false)
    | _ => false)
  | .mk0 d e sz => okDst N d o && (match o.op with
    | .buildSlice t n' ps' => n' == 0 && uSlice P t e && szOf P e sz && decide (0 < sz) && (zeroOf P e).isSome && ps'.toList.isEmpty
    | _ => false)
  | .appx d e sz n st x => okDst N d o && n != d && (match o.op with
    | .call c => (match c.callee with
      | .builtin .append => (match c.args.toList, c.argTypes.toList with
        | [.tmp m, y], [t, t'] => m == n && okX x y && t == t' && uSlice P t e && szOf P e sz && decide (0 < sz) && (match (P.info? e).map (·.bytes) with
          | some by' => decide (by' ≤ 1000)
          | none => false) && (match zeroOf P e with
          | some zv => zv.cells.size == sz
          | none => false)
        | _, _ => false)
      | _ => false)
    | _ => false)
  | .rbox d x => okDst N d o && (match o.op with
    | .box _ y => okX x y
    | _ => false)
  | .gidx d tab x => okDst N d o && (match o.op with
    | .indexAddr t (.global 0) y => okX x y && decide (tab = gtOf P) && (match arrOf P t with
      | some (some len, e) => len == tab.length && szOf P e 1
      | _ => false)
    | _ => false)
  | .fzb d n => okDst N d o && n != d && (match o.op with
    | .convert t t' (.tmp m) => m == n && t == t' && (match P.underlying t with
      | some (.slice e) => uInt P e .u8
      | _ => false)
    | _ => false)
  | .copy d _ _ x y => okDst N d o && (match o.op with
    | .call c => (match c.callee with
      | .builtin .copy => (match c.args.toList, c.argTypes.toList with
        | [ux, uy], [t, _] => okX x ux && okX y uy && (match P.underlying t with
          | some (.slice e) => szOf P e 1
          | _ => false)
        | _, _ => false)
      | _ => false)
    | _ => false)
  | .mkmap d _ _ => okDst N d o && (match o.op with
    | .makeMap _ none => true
    | _ => false)
  | .mlook d cok ag ks zv st x k => okDst N d o && (match o.op with
    | .lookup t y u c => c == cok && okX x y && okX k u && okMapT P t ag ks && okMapZ P t zv
    | _ => false)
  | .mupd ag ks st x k v => decide (o.dst = none) && (match o.op with
    | .mapUpdate t y u z => okX x y && okX k u && okX v z && okMapT P t ag ks
    | _ => false)
  | .mdel ag ks st x k => decide (o.dst = none) && (match o.op with
    | .call c => (match c.callee with
      | .builtin .delete => (match c.args.toList, c.argTypes.toList with
        | [y, u], [t, _] => okX x y && okX k u && okMapT P t ag ks
        | _, _ => false)
      | _ => false)
    | _ => false)
  | .boxmv d n => okDst N d o && n != d && (match o.op with
    | .box _ (.tmp m) => m == n
    | _ => false)
  | .call _ _ _ _ _ _ => false
  | .callv _ _ _ _ => false

/-- The sites that an operation makes. -/
def IOp.makes : IOp → List Nat
  | .alloc d _ => [d]
  | .box d _ => [d]
  | .mks d _ _ => [d]
  | .mkmap d _ _ => [d]
  | .boxmv d _ => [d]
  | .appx d _ _ _ _ _ => [d]
  | .call _ _ _ _ news _ => news
  | _ => []
end Go.Abs
end

section
/- The abstract machine's operations on memory answer as the model's do: values, variables, loads, stores. No condition. -/
namespace Go.Abs
open Go.RowKit

/-- What an operation leaves. -/
def Nxt (P : Program) (X : Ctx) (G : Gh) (o : Oper) (a : Act) (w : World) (s' : S) (mk : List Nat) : Prop :=
  ∃ a' w' G', (∀ (K : Act → World → Prop) (Q : Exit → Act → World → Prop), K a' w' → o.wp P a w K Q) ∧ Rel X G' s' a' w' ∧ a'.tmps.size = a.tmps.size ∧ ∀ x, x ∉ mk → G'.site x = G.site x

section
variable {P : Program} {X : Ctx} {G G' : Gh} {s s' : S} {a : Act} {w w' : World} {o : Oper} {c : Prop} {U : List (Key × AV)} {v : Value} {N : Nat} {mk : List Nat}

theorem Nxt.value (hr : (execOp a.eval o).run P w = .ok (.value v) w') (h : Rel X G' s' (a.put o.dst v) w') (hs : ∀ x, x ∉ mk → G'.site x = G.site x) : Nxt P X G o a w s' mk :=
  ⟨_, _, G', fun K Q hK => by unfold Oper.wp; rw [hr]; exact hK, h, put_size _ _ _, hs⟩
theorem Nxt.skip (hr : (execOp a.eval o).run P w = .ok .skip w') (hd : o.dst = none) (h : Rel X G' s' a w') (hs : ∀ x, x ∉ mk → G'.site x = G.site x) : Nxt P X G o a w s' mk :=
  ⟨_, _, G', fun K Q hK => by unfold Oper.wp; rw [hr]; simp only [Oper.upon, hd, Act.put]; exact hK, h, rfl, hs⟩

theorem okDst_spec {d : Nat} (h : okDst N d o = true) : o.dst = some d ∧ d < N := by simpa [okDst] using h

theorem okC_VR0 {fp : Nat → Nat → Prop} {site : Nat → Option Nat} {a : AV} {u : Value} (h : okC a u = true) : VR0 fp site w u a none := by
  have := okC_sound (fp := fp) (site := site) (w := w) h
  unfold okC at h
  split at h
  · exact this.1
  · exact this.1
  · exact this.1
  · exact this.1
  · exact this.1
  · exact this.1
  · exact this.1
  · cases h

theorem zip_at {α β : Type} {f : α × β → Bool} {l : List α} {r : List β} (h : (l.zip r).all f = true) {j : Nat} {x : α} {y : β} (hx : l[j]? = some x) (hy : r[j]? = some y) : f (x, y) = true := by
  rw [List.all_eq_true] at h
  exact h _ (List.mem_of_getElem? (i := j) (by simp [List.getElem?_zip_eq_some, hx, hy]))

theorem okCells_V2 {fp : Nat → Nat → Prop} {site : Nat → Option Nat} {z : AV} {cs : Array Value} (h : okCells z cs.toList = true) : V2 fp site w (.agg cs) z ∧ z.isAgg := by
  unfold okCells at h
  split at h
  · simp only [Bool.and_eq_true, beq_iff_eq] at h
    refine ⟨⟨⟨cs, rfl, ⟨h.1.symm, fun j u p hu hp => ?_⟩⟩, fun _ => rfl⟩, trivial⟩
    exact (okC_VR0 (site := fun _ => none) (zip_at h.2 hp hu)).1
  · simp only [Bool.and_eq_true, beq_iff_eq] at h
    refine ⟨⟨⟨cs, rfl, by simpa using h.1.symm, fun j p u hp hu => ?_⟩, fun _ _ => rfl⟩, trivial⟩
    exact okC_VR0 (zip_at h.2 hp (by simpa using hu))
  · cases h

theorem zero_spec {e : TypeId} {z : AV} (h : okZero P e z = true) : ∃ zv, (∀ w, (zeroValue e).run P w = .ok zv w) ∧ okCells z zv.cells.toList = true := by
  unfold okZero at h
  split at h
  · rename_i zv hz
    refine ⟨zv, fun w => ?_, h⟩
    unfold zeroOf at hz
    obtain ⟨i, hi, hz⟩ := Option.bind_eq_some_iff.1 hz
    simp [zeroValue, typeInfo, hi, hz]
  · cases h

theorem i_p {d : Nat} {po : POp} {xs : List Opd} (hR : Rel X G s a w) (hN : a.tmps.size = N) (hok : okI P N (.p d po xs) o = true) (he : eff s (.p d po xs) = some (c, U)) (hc : c) : Nxt P X G o a w (s.ups U) mk := by
  simp only [okI, Bool.and_eq_true] at hok
  obtain ⟨h1, h2⟩ := hok
  obtain ⟨hd, hlt⟩ := okDst_spec h1
  simp only [eff] at he
  split at he
  · rename_i c' r hp
    cases he
    obtain ⟨v, hr, hv⟩ := pSound hR.opdp h2 hp hc
    exact Nxt.value (G' := { G with own := clr G.own (.t d) }) hr (by rw [hd]; exact hR.put (by rw [hN]; exact hlt) hv) fun _ _ => rfl
  · cases he

theorem i_gidx {d : Nat} {tab : List Nat} {x : Opd} (hx : GlOK P X) (hR : Rel X G s a w) (hN : a.tmps.size = N) (hok : okI P N (.gidx d tab x) o = true) (he : eff s (.gidx d tab x) = some (c, U)) (hc : c) : Nxt P X G o a w (s.ups U) mk := by
  simp only [okI, Bool.and_eq_true] at hok
  obtain ⟨h1, h2⟩ := hok
  obtain ⟨hd, hlt⟩ := okDst_spec h1
  split at h2
  · rename_i t y hop
    simp only [Bool.and_eq_true, decide_eq_true_eq] at h2
    obtain ⟨⟨hy, htab⟩, hf⟩ := h2
    have hv : V2 (Abs.fp X G) G.site w (a.eval y) (ev s x).dem2 := hR.opd _ _ hy
    simp only [eff] at he
    split at he
    · rename_i k i e
      rw [e] at hv
      cases he
      obtain ⟨hc1, hc2⟩ := hc
      have e2 := hv.int
      split at hf
      · rename_i len el harr
        simp only [Bool.and_eq_true, beq_iff_eq, szOf, decide_eq_true_eq] at hf
        obtain ⟨rfl, hsz⟩ := hf
        obtain ⟨inf, hi, hsn⟩ := Option.map_eq_some_iff.1 hsz
        unfold arrOf at harr
        split at harr <;> simp only [Option.some.injEq, Prod.mk.injEq, reduceCtorEq, false_and] at harr
        rename_i n' e'' hu
        obtain ⟨rfl, rfl⟩ := harr
        have hget : tab[i.toNat]? = some (tab.getD i.toNat 0) := by
          rw [List.getD_eq_getElem?_getD, List.getElem?_eq_getElem (by omega)]
          rfl
        have hg : (gtOf P)[i.toNat]? = some (tab.getD i.toNat 0) := by rw [← htab]; exact hget
        obtain ⟨g1, g2⟩ := hx _ _ hg
        have hrun : (execOp a.eval o).run P w = .ok (.value (.pointer (some ⟨0, i.toNat, none⟩))) w := by
          have hcc : 0 ≤ i ∧ i < ((tab.length : Nat) : Int) := ⟨hc1, hc2⟩
          simp [execOp, hop, Instr.indexAt, Act.eval, asIntOf_run, run_underlying hu, Instr.sureAddr, hcc, sizeOf, typeInfo, hi, hsn, Addr.add_mid]
          simp [Act.eval] at e2
          simp [e2, asIntOf_run, hcc, hsn, Addr.add_mid]
        refine Nxt.value (G' := { G with own := clr G.own (.t d) }) hrun (by
          rw [hd]
          refine hR.put (by rw [hN]; exact hlt) (V2.mkrp fun j p hj => ?_)
          cases j with
          | zero =>
            simp only [List.getElem?_cons_zero, Option.some.injEq] at hj
            subst hj
            exact ⟨⟨Or.inl g1, hR.okS _ _ g1⟩, _, by rw [Nat.add_zero, hR.fr.cell _ _ g1]; exact g2, .int _ _⟩
          | succ j => simp at hj) fun _ _ => rfl
      · cases hf
    · cases he
  · cases h2

theorem i_mv {d n : Nat} (hR : Rel X G s a w) (hN : a.tmps.size = N) (hok : okI P N (.mv d n) o = true) (he : eff s (.mv d n) = some (c, U)) : Nxt P X G o a w (s.ups U) mk := by
  simp only [okI, Bool.and_eq_true, bne_iff_ne] at hok
  obtain ⟨⟨h1, h2⟩, h3⟩ := hok
  obtain ⟨hd, hlt⟩ := okDst_spec h1
  cases he
  obtain ⟨G', hR', hs⟩ := hR.move (by rw [hN]; exact hlt) h2
  split at h3
  · rename_i m hop
    simp only [beq_iff_eq] at h3
    subst h3
    exact Nxt.value (v := a.tmps.getD m Go.undef) (by simp only [execOp, hop]; rfl) (by rw [hd]; exact hR') fun x _ => hs x
  · rename_i m hop
    simp only [beq_iff_eq] at h3
    subst h3
    exact Nxt.value (v := a.tmps.getD m Go.undef) (by simp only [execOp, hop]; rfl) (by rw [hd]; exact hR') fun x _ => hs x
  · cases h3

theorem i_alloc {d : Nat} {z : AV} (hR : Rel X G s a w) (hN : a.tmps.size = N) (hfree : G.site d = none) (hmd : s (.m d) = .undef) (hok : okI P N (.alloc d z) o = true) (he : eff s (.alloc d z) = some (c, U)) : Nxt P X G o a w (s.ups U) [d] := by
  simp only [okI, Bool.and_eq_true] at hok
  obtain ⟨h1, h2⟩ := hok
  obtain ⟨hd, hlt⟩ := okDst_spec h1
  cases he
  split at h2
  · rename_i e hop
    obtain ⟨zv, hz, hcs⟩ := zero_spec h2
    obtain ⟨hv, hagg⟩ := okCells_V2 (w := w) (fp := fp X G) (site := G.site) hcs
    obtain ⟨G', hR', hs⟩ := hR.newSite (d := d) (e := e) (by rw [hN]; exact hlt) hfree hmd hv hagg
    refine Nxt.value (v := .pointer (some ⟨w.heap.size, 0, none⟩)) (w' := w.alloc (.cells zv.cells e)) ?_ (by rw [hd]; exact hR') fun x hx => hs x (by simpa using hx)
    simp [execOp, hop, Instr.alloc, hz, newVar, newRow, newObj, Sem.run]
  · cases h2

theorem toCells_V2 {fp : Nat → Nat → Prop} {site : Nat → Option Nat} {x z : AV} (h : toCells x = some z) (hv : V2 fp site w v x) : V2 fp site w (.agg v.cells) z ∧ z.isAgg := by
  have key : ∀ (a : AV), VR0 fp site w v a none → v.cells = #[v] → V2 fp site w (.agg v.cells) (.agg [a]) := fun a ha hc => by
    refine ⟨⟨#[v], by rw [hc], rfl, fun j cc u h1 h2 => ?_⟩, fun _ _ => rfl⟩
    cases j with
    | zero => simp at h1 h2; subst h1 h2; exact ha
    | succ j => simp at h1
  cases x <;> simp only [toCells, AV.storable, Option.some.injEq, if_true, Bool.false_eq_true, if_false, reduceCtorEq] at h <;> subst h
  case pv p =>
    refine ⟨⟨⟨#[v], by rw [hv.pv.cells], ⟨rfl, fun j u q h1 h2 => ?_⟩⟩, fun _ => rfl⟩, trivial⟩
    cases j with
    | zero => simp at h1 h2; subst h1 h2; exact hv.pv
    | succ j => simp at h1
  case pagg l => obtain ⟨⟨cs, rfl, h1⟩, h2⟩ := hv; exact ⟨⟨⟨cs, rfl, h1⟩, h2⟩, trivial⟩
  case agg l => obtain ⟨⟨cs, rfl, h1⟩, h2⟩ := hv; exact ⟨⟨⟨cs, rfl, h1⟩, h2⟩, trivial⟩
  case os e sz es =>
    refine ⟨key _ hv.1 ?_, trivial⟩
    obtain ⟨xs, h1, _⟩ := hv.1
    rcases h1.2 with ⟨rfl, _⟩ | ⟨g, cap, cur, rfl, _⟩ <;> rfl
  case ptr y o => exact ⟨key _ hv.1 (by obtain ⟨b, _, rfl⟩ := hv.ptr; rfl), trivial⟩
  case rp l => exact ⟨key _ hv.1 (by obtain ⟨b, oo, rfl, _⟩ := hv.rp; rfl), trivial⟩
  case sr y o n sz => exact ⟨key _ hv.1 (by obtain ⟨b, cc, _, rfl, _⟩ := hv.sr; rfl), trivial⟩
  case fn f => exact ⟨key _ hv.1 (by have := hv.1.1; subst this; rfl), trivial⟩
  case mp y => exact ⟨key _ hv.1 (by obtain ⟨⟨b, _, rfl⟩, _⟩ := hv.1; rfl), trivial⟩

theorem i_box {d : Nat} {x : Opd} (hR : Rel X G s a w) (hN : a.tmps.size = N) (hfree : G.site d = none) (hmd : s (.m d) = .undef) (hok : okI P N (.box d x) o = true) (he : eff s (.box d x) = some (c, U)) : Nxt P X G o a w (s.ups U) [d] := by
  simp only [okI, Bool.and_eq_true] at hok
  obtain ⟨h1, h2⟩ := hok
  obtain ⟨hd, hlt⟩ := okDst_spec h1
  simp only [eff] at he
  split at he
  · rename_i z hz
    cases he
    split at h2
    · rename_i e y hop
      have hx := hR.opd _ _ h2
      obtain ⟨hv, hagg⟩ := toCells_V2 hz hx
      obtain ⟨G', hR', hs⟩ := hR.newSite (d := d) (e := e) (by rw [hN]; exact hlt) hfree hmd hv hagg
      refine Nxt.value (v := .pointer (some ⟨w.heap.size, 0, none⟩)) (w' := w.alloc (.cells (a.eval y).cells e)) ?_ (by rw [hd]; exact hR') fun x hx => hs x (by simpa using hx)
      simp [execOp, hop, Instr.box, newVar, newRow, newObj, Sem.run]
    · cases h2
  · cases he

/-- A new block that nothing may write. -/
theorem Rel.newRp (h : Rel X G s a w) {d : Nat} (hd : d < a.tmps.size) {cs : Array Value} {e : TypeId} {l : List PV} (hc : PRs (Abs.fp X G) w cs.toList l) :
    ∃ G', Rel X G' (s.up (.t d) (.rp l)) (a.put (some d) (.pointer (some ⟨w.heap.size, 0, none⟩))) (w.alloc (.cells cs e)) ∧ ∀ x, G'.site x = G.site x := by
  refine ⟨⟨G.site, clr G.own (.t d)⟩, ?_, fun x => rfl⟩
  have hsub : ∀ k j be, clr G.own (.t d) k j = some be → G.own k j = some be := fun k j be hk => by
    simp only [clr] at hk
    split at hk
    · cases hk
    · exact hk
  have hno : ∀ k j e', clr G.own (.t d) k j ≠ some (w.heap.size, e') := fun k j e' hk => by
    have := (h.ownF _ _ _ _ (hsub _ _ _ hk)).1
    omega
  have hns : ∀ x, G.site x ≠ some w.heap.size := fun x hx => by
    have := (h.siteF x _ hx).1
    omega
  refine h.newBlock _ (fun x b hb => hb) (fun x b hb => Or.inl hb) (fun k j b e' hb => Or.inl (hsub _ _ _ hb)) (fun x y h1 h2 => (hns x h1).elim) (fun k j k' j' e' e'' h1 h2 => (hno _ _ _ h1).elim) (fun k j e' x h1 => (hno _ _ _ h1).elim) (fun hfp t => ?_) (fun hfp x => ?_) ((put_defers _ _ _).trans h.df)
  · by_cases ht : t = d
    · subst ht
      rw [getD_put_same hd, S.up_same]
      have e1 : clr G.own (.t t) (.t t) = fun _ => none := by funext j; simp [clr]
      simp only [e1]
      refine V2.mkrp fun j p hp => ?_
      obtain ⟨u, hu, hpr⟩ := hc.get hp
      rw [Nat.zero_add]
      refine ⟨⟨Or.inr (Or.inl h.fr.size), hns, fun k j e' hk => (hno _ _ _ hk).elim⟩, u, ?_, hpr.mono hfp⟩
      rw [cell_of_heap (heap_alloc_new w _), ← Array.getElem?_toList]
      exact hu
    · rw [getD_put_other ht, S.up_other _ _ (by simp [ht])]
      have e1 : clr G.own (.t d) (.t t) = G.own (.t t) := by funext j; simp [clr, ht]
      simp only [e1]
      exact (h.tmp t).mono hfp (fun _ _ h => h) fun j g e' he => own_heap h _ he
  · rw [S.up_other _ _ (by simp)]
    have e1 : clr G.own (.t d) (.m x) = G.own (.m x) := by funext j; simp [clr]
    simp only [e1]
    exact (h.mem x).mono hfp (fun _ _ h => h) (fun b hb => ⟨hb, Below.heap_alloc w _ b (h.siteF x b hb).1⟩) fun j g e' he => own_heap h _ he
theorem i_rbox {d : Nat} {x : Opd} (hR : Rel X G s a w) (hN : a.tmps.size = N) (hok : okI P N (.rbox d x) o = true) (he : eff s (.rbox d x) = some (c, U)) : Nxt P X G o a w (s.ups U) mk := by
  simp only [okI, Bool.and_eq_true] at hok
  obtain ⟨h1, h2⟩ := hok
  obtain ⟨hd, hlt⟩ := okDst_spec h1
  simp only [eff] at he
  split at he
  · rename_i l hz
    cases he
    split at h2
    · rename_i e y hop
      have hx := hR.opd _ _ h2
      obtain ⟨⟨⟨cs, e1, hp⟩, _⟩, _⟩ := toCells_V2 hz hx
      have hcs : (a.eval y).cells = cs := by cases e1; rfl
      obtain ⟨G', hR', hs⟩ := hR.newRp (d := d) (e := e) (by rw [hN]; exact hlt) hp
      refine Nxt.value (v := .pointer (some ⟨w.heap.size, 0, none⟩)) (w' := w.alloc (.cells cs e)) ?_ (by rw [hd]; exact hR') fun x hx => hs x
      rw [← hcs]
      simp [execOp, hop, Instr.box, newVar, newRow, newObj, Sem.run]
    · cases h2
  · cases he

/-- What an aggregate holds, once some of its cells are replaced. -/
def ow1 (ow : Nat → Option (Nat × Nat)) (o : Nat) (ov : Option (Nat × Nat)) (j : Nat) : Option (Nat × Nat) := if j = o then ov else ow j

theorem splice_get {α : Type} {l vs : List α} {o j : Nat} (h : o + vs.length ≤ l.length) : (l.take o ++ vs ++ l.drop (o + vs.length))[j]? = if j < o then l[j]? else if j < o + vs.length then vs[j - o]? else l[j]? := by
  rw [List.append_assoc, List.getElem?_append, List.getElem?_append]
  simp only [List.length_take, List.getElem?_take, List.getElem?_drop]
  have : min o l.length = o := by omega
  rw [this]
  split
  · rfl
  · split
    · rw [if_pos (by omega)]
    · rw [if_neg (by omega)]
      congr 1
      omega

/-- A scalar put into an aggregate. -/
theorem put0 {fp : Nat → Nat → Prop} {site : Nat → Option Nat} {z r v0 : AV} {o : Nat} {cs : Array Value} {ow : Nat → Option (Nat × Nat)} {ov : Option (Nat × Nat)} {u : Value}
    (hz : VR1 fp site w (.agg cs) z ow) (hagg : z.isAgg) (hv : VR0 fp site w u v0 ov) (hst : v0.storable = true) (hp : putA z o v0 = some (c, r)) (hc : c) :
    o < cs.size ∧ VR1 fp site w (.agg (cs.setIfInBounds o u)) r (ow1 ow o ov) ∧ r.isAgg := by
  have genA : ∀ l : List AV, VR1 fp site w (.agg cs) (.agg l) ow → o < l.length → o < cs.size ∧ VR1 fp site w (.agg (cs.setIfInBounds o u)) (.agg (l.set o v0)) (ow1 ow o ov) := by
    intro l hl hlt
    obtain ⟨⟨cs', e, h1, h2⟩, h3⟩ := hl
    cases e
    refine ⟨by omega, ⟨_, rfl, by simp [h1], fun j cc uu hj hu => ?_⟩, fun j hj => ?_⟩
    · rw [List.getElem?_set] at hj
      rw [Array.getElem?_setIfInBounds] at hu
      unfold ow1
      by_cases hjo : o = j
      · subst hjo
        rw [if_pos rfl, if_pos hlt] at hj
        rw [if_pos rfl] at hu
        cases hj
        split at hu
        · cases hu; rw [if_pos rfl]; exact hv
        · cases hu
      · rw [if_neg hjo] at hj hu
        rw [if_neg (Ne.symm hjo)]
        exact h2 j cc uu hj hu
    · unfold ow1
      rw [List.length_set] at hj
      rw [if_neg (by omega)]
      exact h3 j hj
  have toA : ∀ l : List PV, VR1 fp site w (.agg cs) (.pagg l) ow → VR1 fp site w (.agg cs) (.agg (l.map AV.pv)) ow := by
    intro l hl
    obtain ⟨⟨cs', e, h1⟩, h3⟩ := hl
    cases e
    refine ⟨⟨cs, rfl, by simpa using h1.1, fun j cc uu hj hu => ?_⟩, fun j _ => h3 j⟩
    rw [List.getElem?_map, Option.map_eq_some_iff] at hj
    obtain ⟨p, hp, rfl⟩ := hj
    exact ⟨h1.2 j uu p (by simpa using hu) hp, h3 j⟩
  cases z <;> simp only [AV.isAgg] at hagg
  case pagg l =>
    cases v0 <;> simp only [AV.storable, Bool.false_eq_true] at hst
    case pv p =>
      simp only [putA, Option.some.injEq, Prod.mk.injEq] at hp
      obtain ⟨rfl, rfl⟩ := hp
      obtain ⟨⟨cs', e, h1⟩, h3⟩ := hz
      cases e
      have hl : cs.size = l.length := by simpa using h1.1
      refine ⟨by omega, ⟨⟨_, rfl, ?_⟩, fun j => ?_⟩, trivial⟩
      · rw [Array.toList_setIfInBounds]
        exact h1.set o hv.1
      · unfold ow1
        split
        · exact hv.2
        · exact h3 j
    all_goals
      simp only [putA, AV.storable, if_true, Option.some.injEq, Prod.mk.injEq] at hp
      obtain ⟨rfl, rfl⟩ := hp
      obtain ⟨q1, q2⟩ := genA _ (toA l hz) (by simpa using hc)
      exact ⟨q1, q2, trivial⟩
  case agg l =>
    cases v0 <;> simp only [AV.storable, Bool.false_eq_true] at hst
    all_goals
      simp only [putA, AV.storable, if_true, Option.some.injEq, Prod.mk.injEq] at hp
      obtain ⟨rfl, rfl⟩ := hp
      obtain ⟨q1, q2⟩ := genA _ hz hc
      exact ⟨q1, q2, trivial⟩
end
end Go.Abs
end

section
/- The abstract machine's operations on memory answer as the model's do: aggregates that are built, slices that are built. No condition. -/
namespace Go.Abs
open Go.RowKit

def spl (cs : Array Value) (o : Nat) (vs : Array Value) : Array Value := (cs.toList.take o ++ vs.toList ++ cs.toList.drop (o + vs.size)).toArray

section
variable {P : Program} {X : Ctx} {G G' : Gh} {s s' : S} {a : Act} {w w' : World} {o : Oper} {c : Prop} {U : List (Key × AV)} {v : Value} {N : Nat} {mk : List Nat}
variable {fp : Nat → Nat → Prop} {site : Nat → Option Nat}

theorem spl_get {cs vs : Array Value} {o j : Nat} (h : o + vs.size ≤ cs.size) : (spl cs o vs)[j]? = if j < o then cs[j]? else if j < o + vs.size then vs[j - o]? else cs[j]? := by
  have := splice_get (l := cs.toList) (vs := vs.toList) (o := o) (j := j) (by simpa using h)
  simpa [spl] using this
theorem spl_size {cs vs : Array Value} {o : Nat} (h : o + vs.size ≤ cs.size) : (spl cs o vs).size = cs.size := by
  simp [spl]; omega
theorem spl_one {cs : Array Value} {o : Nat} {u : Value} (h : o < cs.size) : spl cs o #[u] = cs.setIfInBounds o u := by
  apply Array.ext_getElem?
  intro j
  rw [spl_get (show o + 1 ≤ cs.size from h), Array.getElem?_setIfInBounds]
  by_cases h1 : j < o
  · rw [if_pos h1, if_neg (by omega)]
  · rw [if_neg h1]
    by_cases h2 : j = o
    · subst h2; simp [h]
    · have : ¬ j < o + 1 := by omega
      simp [this, Ne.symm h2]

theorem fold_spl : ∀ (vs : List Value) (off k : Nat) (cs : Array Value), off + k + vs.length ≤ cs.size →
    ((vs.zipIdx k).foldl (fun cs (p : Value × Nat) => cs.setIfInBounds (off + p.2) p.1) cs) = spl cs (off + k) vs.toArray
  | [], off, k, cs, h => by simp [spl]
  | u :: vs, off, k, cs, h => by
    simp only [List.zipIdx_cons, List.foldl_cons]
    simp only [List.length_cons] at h
    rw [fold_spl vs off (k + 1) _ (by simp; omega)]
    apply Array.ext_getElem?
    intro j
    rw [spl_get (by simp; omega), spl_get (by simp; omega), Array.getElem?_setIfInBounds]
    simp only [List.size_toArray, List.length_cons]
    by_cases h1 : j < off + k
    · rw [if_pos h1, if_pos (by omega), if_neg (by omega)]
    · by_cases h2 : j = off + k
      · subst h2
        rw [if_pos (by omega), if_pos rfl, if_pos (by omega), if_neg (by omega), if_pos (by omega)]
        simp
      · rw [if_neg (show ¬ j < off + k by omega), if_neg (show ¬ j < off + (k + 1) by omega)]
        by_cases h3 : j < off + k + (vs.length + 1)
        · rw [if_pos (by omega), if_pos h3]
          rw [show j - (off + k) = (j - (off + (k + 1))) + 1 by omega]
          simp
        · rw [if_neg (by omega), if_neg h3, if_neg (by omega)]

def owN (ow : Nat → Option (Nat × Nat)) (o n : Nat) (j : Nat) : Option (Nat × Nat) := if o ≤ j ∧ j < o + n then none else ow j

theorem pagg_agg {cs : Array Value} {l : List PV} {ow : Nat → Option (Nat × Nat)} (hl : VR1 fp site w (.agg cs) (.pagg l) ow) : VR1 fp site w (.agg cs) (.agg (l.map AV.pv)) ow := by
  obtain ⟨⟨cs', e, h1⟩, h3⟩ := hl
  cases e
  refine ⟨⟨cs, rfl, by simpa using h1.1, fun j cc uu hj hu => ?_⟩, fun j _ => h3 j⟩
  rw [List.getElem?_map, Option.map_eq_some_iff] at hj
  obtain ⟨p, hp, rfl⟩ := hj
  exact ⟨h1.2 j uu p (by simpa using hu) hp, h3 j⟩

theorem agg_splice {cs vs : Array Value} {l lv : List AV} {ow : Nat → Option (Nat × Nat)} {o : Nat} (hz : VR1 fp site w (.agg cs) (.agg l) ow) (hv : VR1 fp site w (.agg vs) (.agg lv) (fun _ => none)) (hle : o + lv.length ≤ l.length) :
    o + vs.size ≤ cs.size ∧ vs.size = lv.length ∧ VR1 fp site w (.agg (spl cs o vs)) (.agg (l.take o ++ lv ++ l.drop (o + lv.length))) (owN ow o vs.size) := by
  obtain ⟨⟨cs', e, h1, h2⟩, h3⟩ := hz
  cases e
  obtain ⟨⟨vs', e, g1, g2⟩, g3⟩ := hv
  cases e
  have hle' : o + vs.size ≤ cs.size := by omega
  refine ⟨hle', g1, ⟨_, rfl, by rw [spl_size hle', h1]; simp; omega, fun j cc u hj hu => ?_⟩, fun j hj => ?_⟩
  · rw [splice_get hle] at hj
    rw [spl_get hle'] at hu
    unfold owN
    by_cases q1 : j < o
    · rw [if_pos q1] at hj hu
      rw [if_neg (by omega)]
      exact h2 j cc u hj hu
    · rw [if_neg q1] at hj hu
      by_cases q2 : j < o + lv.length
      · rw [if_pos q2] at hj
        rw [if_pos (by omega)] at hu
        rw [if_pos (by omega)]
        exact g2 _ cc u hj hu
      · rw [if_neg q2] at hj
        rw [if_neg (by omega)] at hu
        rw [if_neg (by omega)]
        exact h2 j cc u hj hu
  · unfold owN
    simp at hj
    rw [if_neg (by omega)]
    exact h3 j (by omega)

/-- An aggregate put into an aggregate. -/
theorem putN {z r v0 : AV} {o : Nat} {cs vs : Array Value} {ow : Nat → Option (Nat × Nat)}
    (hz : VR1 fp site w (.agg cs) z ow) (hagg : z.isAgg) (hv : VR1 fp site w (.agg vs) v0 (fun _ => none)) (hva : v0.isAgg) (hp : putA z o v0 = some (c, r)) (hc : c) :
    o + vs.size ≤ cs.size ∧ VR1 fp site w (.agg (spl cs o vs)) r (owN ow o vs.size) ∧ r.isAgg ∧ vs.size = avSize v0 := by
  have e0 : ∀ {l lv : List AV} {rr : AV}, VR1 fp site w (.agg cs) (.agg l) ow → VR1 fp site w (.agg vs) (.agg lv) (fun _ => none) → o + lv.length ≤ l.length → rr = .agg (l.take o ++ lv ++ l.drop (o + lv.length)) →
      o + vs.size ≤ cs.size ∧ VR1 fp site w (.agg (spl cs o vs)) rr (owN ow o vs.size) ∧ rr.isAgg ∧ vs.size = lv.length := by
    intro l lv rr h1 h2 h3 h4
    subst h4
    obtain ⟨q1, q2, q3⟩ := agg_splice h1 h2 h3
    exact ⟨q1, q3, trivial, q2⟩
  cases z <;> simp only [AV.isAgg] at hagg <;> cases v0 <;> simp only [AV.isAgg] at hva
  case pagg.pagg l lv =>
    simp only [putA, Option.some.injEq, Prod.mk.injEq] at hp
    obtain ⟨rfl, rfl⟩ := hp
    obtain ⟨⟨cs', e, h1⟩, h3⟩ := hz
    cases e
    obtain ⟨⟨vs', e, g1⟩, _⟩ := hv
    cases e
    have e1 : vs.size = lv.length := by simpa using g1.1
    have e2 : cs.size = l.length := by simpa using h1.1
    refine ⟨by omega, ⟨⟨_, rfl, ?_⟩, fun j => ?_⟩, trivial, e1⟩
    · have := ((h1.take o).append g1).append (h1.drop (o + lv.length))
      simpa [spl, e1] using this
    · unfold owN; split
      · rfl
      · exact h3 j
  case pagg.agg l lv =>
    simp only [putA, Option.some.injEq, Prod.mk.injEq] at hp
    obtain ⟨rfl, rfl⟩ := hp
    exact e0 (pagg_agg hz) hv (by simpa using hc.1) (by rw [← List.map_take, ← List.map_drop])
  case agg.pagg l lv =>
    simp only [putA, Option.some.injEq, Prod.mk.injEq] at hp
    obtain ⟨rfl, rfl⟩ := hp
    have := e0 hz (pagg_agg hv) (by simpa using hc) rfl
    simpa [avSize] using this
  case agg.agg l lv =>
    simp only [putA, Option.some.injEq, Prod.mk.injEq] at hp
    obtain ⟨rfl, rfl⟩ := hp
    exact e0 hz hv hc.1 rfl

theorem VR0.one {a : AV} {ow : Option (Nat × Nat)} (h : VR0 fp site w v a ow) (hs : a.storable = true) : v.oneCell' = true ∧ v.cells = #[v] := by
  cases a <;> simp only [AV.storable, Bool.false_eq_true] at hs
  · exact ⟨h.1.one, h.1.cells⟩
  · obtain ⟨xs, h1, _⟩ := h
    rcases h1.2 with ⟨rfl, _⟩ | ⟨g, cap, cur, rfl, _⟩ <;> exact ⟨rfl, rfl⟩
  · obtain ⟨⟨b, _, rfl⟩, _⟩ := h; exact ⟨rfl, rfl⟩
  · obtain ⟨⟨b, oo, rfl, _⟩, _⟩ := h; exact ⟨rfl, rfl⟩
  · obtain ⟨⟨b, cc, _, rfl, _⟩, _⟩ := h; exact ⟨rfl, rfl⟩
  · obtain ⟨rfl, _⟩ := h; exact ⟨rfl, rfl⟩
  · obtain ⟨⟨b, _, rfl⟩, _⟩ := h; exact ⟨rfl, rfl⟩

theorem owN_none (o n : Nat) : owN (fun _ => none) o n = fun _ => none := by funext j; simp [owN]
theorem ow1_none (o : Nat) : ow1 (fun _ => none) o none = fun _ => none := by funext j; simp [ow1]

theorem V2_VR1 {a : AV} (h : V2 fp site w v a) (ha : a.isAgg) : VR1 fp site w v a (fun _ => none) := by cases a <;> first | exact h | exact ha.elim
theorem V2_VR0 {a : AV} (h : V2 fp site w v a) (ha : a.storable = true) : VR0 fp site w v a none := by
  cases a <;> simp only [AV.storable, Bool.false_eq_true] at ha <;> exact h.1
theorem VR1_V2 {a : AV} (h : VR1 fp site w v a (fun _ => none)) : V2 fp site w v a := by
  cases a <;> first | exact h | exact h.1.elim

/-- A value put into an aggregate. -/
theorem putV {z r v0 : AV} {o : Nat} {cs : Array Value} {u : Value}
    (hz : VR1 fp site w (.agg cs) z (fun _ => none)) (hagg : z.isAgg) (hv : V2 fp site w u v0) (hp : putA z o v0 = some (c, r)) (hc : c) :
    o + u.cells.size ≤ cs.size ∧ VR1 fp site w (.agg (spl cs o u.cells)) r (fun _ => none) ∧ r.isAgg ∧ u.cells.size = avSize v0 := by
  by_cases hst : v0.storable = true
  · have hv0 := V2_VR0 hv hst
    obtain ⟨_, hcells⟩ := hv0.one hst
    obtain ⟨q1, q2, q3⟩ := put0 hz hagg hv0 hst hp hc
    rw [ow1_none] at q2
    rw [hcells]
    refine ⟨q1, ?_, q3, ?_⟩
    · rw [spl_one q1]; exact q2
    · cases v0 <;> simp only [AV.storable, Bool.false_eq_true] at hst <;> rfl
  · have hva : v0.isAgg := by
      cases z <;> simp only [AV.isAgg] at hagg <;> cases v0 <;> first | trivial | exact absurd rfl hst | simp [putA, AV.storable] at hp
    have hv1 := V2_VR1 hv hva
    have hu : ∃ vs, u = .agg vs := by
      cases v0 <;> simp only [AV.isAgg] at hva
      · obtain ⟨⟨vs, rfl, _⟩, _⟩ := hv1; exact ⟨vs, rfl⟩
      · obtain ⟨⟨vs, rfl, _⟩, _⟩ := hv1; exact ⟨vs, rfl⟩
    obtain ⟨vs, rfl⟩ := hu
    obtain ⟨q1, q2, q3, q4⟩ := putN hz hagg hv1 hva hp hc
    rw [owN_none] at q2
    exact ⟨q1, q2, q3, q4⟩

theorem fill_sound {place : Nat → Option (Nat × Nat)} (H : OpdR fp site w a.eval (fun x => (ev s x).dem2)) : ∀ (ps : List (Nat × Nat × Opd)) (ps' : List (Nat × Operand)) (z r : AV) (c : Prop) (cs : Array Value),
    okPlaces place ps ps' = true → fillA s z ps = some (c, r) → c → VR1 fp site w (.agg cs) z (fun _ => none) → z.isAgg →
    ∃ cs', Instr.fill place cs (ps'.map fun (i, x) => (i, a.eval x)) = some cs' ∧ VR1 fp site w (.agg cs') r (fun _ => none) ∧ r.isAgg := by
  intro ps
  induction ps with
  | nil =>
    intro ps' z r c cs h1 h2 _ h3 h4
    cases ps' with
    | nil => simp only [fillA, Option.some.injEq, Prod.mk.injEq] at h2; obtain ⟨_, rfl⟩ := h2; exact ⟨cs, rfl, h3, h4⟩
    | cons _ _ => simp [okPlaces] at h1
  | cons p ps ih =>
    intro ps' z r c cs h1 h2 hc h3 h4
    obtain ⟨off, n, x⟩ := p
    cases ps' with
    | nil => simp [okPlaces] at h1
    | cons p' ps' =>
      obtain ⟨i, y⟩ := p'
      simp only [okPlaces, Bool.and_eq_true, decide_eq_true_eq] at h1
      obtain ⟨⟨hpl, hx⟩, h1⟩ := h1
      simp only [fillA] at h2
      split at h2
      · rename_i c1 z1 hput
        split at h2
        · rename_i c2 z2 hfill
          cases h2
          obtain ⟨hn, hc1, hc2⟩ := hc
          obtain ⟨q1, q2, q3, q4⟩ := putV h3 h4 (H _ _ hx) hput hc1
          dsimp only at q4
          obtain ⟨cs', g1, g2, g3⟩ := ih ps' z1 r c2 _ h1 hfill hc2 q2 q3
          refine ⟨cs', ?_, g2, g3⟩
          have hsz : (a.eval y).cells.size = n := by rw [q4]; exact hn
          have hfold : (a.eval y).cells.zipIdx.foldl (fun cs (x : Value × Nat) => cs.setIfInBounds (off + x.2) x.1) cs = spl cs off (a.eval y).cells := by
            have := fold_spl (a.eval y).cells.toList off 0 cs (by simpa using q1)
            rw [← Array.foldl_toList, Array.toList_zipIdx]
            simpa using this
          simp only [List.map_cons, Instr.fill, hpl]
          rw [if_neg (by simp [hsz]; omega)]
          rw [hfold]
          exact g1
        · cases h2
      · cases h2

theorem i_build {d : Nat} {z : AV} {ps : List (Nat × Nat × Opd)} (hR : Rel X G s a w) (hN : a.tmps.size = N) (hok : okI P N (.build d z ps) o = true) (he : eff s (.build d z ps) = some (c, U)) (hc : c) : Nxt P X G o a w (s.ups U) mk := by
  simp only [okI, Bool.and_eq_true] at hok
  obtain ⟨h1, h2⟩ := hok
  obtain ⟨hd, hlt⟩ := okDst_spec h1
  simp only [eff] at he
  split at he
  · rename_i c' r hfill
    cases he
    split at h2
    · rename_i t ps' hop
      simp only [Bool.and_eq_true] at h2
      obtain ⟨hz, h2⟩ := h2
      unfold okZero at hz
      split at hz
      · rename_i zv hzv
        unfold zeroOf at hzv
        obtain ⟨it, hit, hzi⟩ := Option.bind_eq_some_iff.1 hzv
        obtain ⟨hv, hagg⟩ := okCells_V2 (w := w) (fp := Abs.fp X G) (site := G.site) hz
        have hv1 := V2_VR1 hv hagg
        have fin : ∀ cs', P.built t (ps'.map fun (i, x) => (i, a.eval x)).toList = some cs' → VR1 (Abs.fp X G) G.site w (.agg cs') r (fun _ => none) → r.isAgg → Nxt P X G o a w (s.ups [(.t d, r)]) mk := by
          intro cs' hb hr _
          have hrun := run_build (P := P) w t _ cs' hb
          exact Nxt.value (G' := { G with own := clr G.own (.t d) }) (v := .agg cs') (by simp only [execOp, hop, Sem.run_bind, hrun, Result.andThen_ok]; rfl) (by rw [hd]; exact hR.put (by rw [hN]; exact hlt) (VR1_V2 hr)) fun _ _ => rfl
        split at h2
        · rename_i fs hu
          split at h2
          · rename_i places hpl
            obtain ⟨cs', g1, g2, g3⟩ := fill_sound hR.opd ps ps'.toList z r _ zv.cells h2 hfill hc hv1 hagg
            refine fin cs' ?_ g2 g3
            simp only [Program.built, hit, hu, hzi, hpl]
            simpa using g1
          · cases h2
        · rename_i n el hu
          split at h2
          · rename_i sz hsz
            obtain ⟨ie, hie, hsn⟩ := Option.map_eq_some_iff.1 hsz
            obtain ⟨cs', g1, g2, g3⟩ := fill_sound hR.opd ps ps'.toList z r _ zv.cells h2 hfill hc hv1 hagg
            refine fin cs' ?_ g2 g3
            simp only [Program.built, hit, hu, hzi, hie, hsn]
            simpa using g1
          · cases h2
        · cases h2
      · cases hz
    · cases h2
  · cases he
end
end Go.Abs
end

section
/- The abstract machine's operations on memory answer as the model's do: slices, loads, stores, appends. No condition. -/
namespace Go.Abs
open Go.RowKit

section
variable {P : Program} {X : Ctx} {G G' : Gh} {s s' : S} {a : Act} {w w' : World} {o : Oper} {c : Prop} {U : List (Key × AV)} {v : Value} {N : Nat} {mk : List Nat}
variable {fp : Nat → Nat → Prop} {site : Nat → Option Nat}

theorem flatten_set {α : Type} {sz : Nat} : ∀ {rows : List (List α)} {i : Nat} {row : List α}, (∀ r ∈ rows, r.length = sz) → i < rows.length → (rows.set i row).flatten = rows.flatten.take (i * sz) ++ row ++ rows.flatten.drop (i * sz + sz) := by
  intro rows
  induction rows with
  | nil => intro i row _ h; simp at h
  | cons r rows ih =>
    intro i row hl hi
    have hr := hl r (by simp)
    cases i with
    | zero =>
      simp only [List.set_cons_zero, List.flatten_cons, Nat.zero_mul, List.take_zero, List.nil_append, Nat.zero_add]
      rw [List.drop_append_of_le_length (by omega), List.drop_of_length_le (by omega), List.nil_append]
    | succ i =>
      simp only [List.set_cons_succ, List.flatten_cons]
      rw [ih (fun r hr => hl r (by simp [hr])) (by simpa using hi)]
      have e1 : (i + 1) * sz = r.length + i * sz := by rw [Nat.add_mul]; omega
      rw [e1, List.take_length_add_append, Nat.add_assoc, List.drop_length_add_append]
      simp

theorem cellsPV_PRs {x : AV} {row : List PV} (h : cellsPV x = some row) (hv : V2 fp site w v x) : PRs fp w v.cells.toList row := by
  cases x <;> simp only [cellsPV, Option.some.injEq, reduceCtorEq] at h <;> subst h
  · rw [hv.pv.cells]
    refine ⟨rfl, fun j u q h1 h2 => ?_⟩
    cases j with
    | zero => simp at h1 h2; subst h1 h2; exact hv.pv
    | succ j => simp at h1
  · obtain ⟨⟨cs, rfl, h1⟩, h2⟩ := hv; exact h1

theorem fillR_sound {sz : Nat} (H : OpdR fp site w a.eval (fun x => (ev s x).dem2)) : ∀ (ps : List (Nat × Opd)) (ps' : List (Nat × Operand)) (rows rows' : List (List PV)) (c : Prop) (cs : Array Value),
    okRows ps ps' = true → fillR s sz rows ps = some (c, rows') → c → PRs fp w cs.toList rows.flatten → (∀ r ∈ rows, r.length = sz) →
    ∃ cs', Instr.fill (fun i => some (i * sz, sz)) cs (ps'.map fun (i, x) => (i, a.eval x)) = some cs' ∧ PRs fp w cs'.toList rows'.flatten ∧ (∀ r ∈ rows', r.length = sz) ∧ rows'.length = rows.length := by
  intro ps
  induction ps with
  | nil =>
    intro ps' rows rows' c cs h1 h2 _ h3 h4
    cases ps' with
    | nil => simp only [fillR, Option.some.injEq, Prod.mk.injEq] at h2; obtain ⟨_, rfl⟩ := h2; exact ⟨cs, rfl, h3, h4, rfl⟩
    | cons _ _ => simp [okRows] at h1
  | cons p ps ih =>
    intro ps' rows rows' c cs h1 h2 hc h3 h4
    obtain ⟨i, x⟩ := p
    cases ps' with
    | nil => simp [okRows] at h1
    | cons p' ps' =>
      obtain ⟨i', y⟩ := p'
      simp only [okRows, Bool.and_eq_true, beq_iff_eq] at h1
      obtain ⟨⟨hii, hx⟩, h1⟩ := h1
      have hii' : i = i' := hii.symm
      subst hii'
      simp only [fillR] at h2
      split at h2
      · rename_i row hrow
        split at h2
        · rename_i c2 z2 hfill
          cases h2
          obtain ⟨hn, hi, hc2⟩ := hc
          have hpr := cellsPV_PRs hrow (H _ _ hx)
          have hcl : (a.eval y).cells.size = sz := by have := hpr.1; simp at this; omega
          have hcs : cs.size = rows.length * sz := by have := h3.1; rw [flat_len h4] at this; simpa using this
          have hfit : i * sz + sz ≤ cs.size := by rw [hcs, ← Nat.succ_mul]; exact Nat.mul_le_mul_right _ hi
          have hrows : ∀ r ∈ rows.set i row, r.length = sz := fun r hr => by
            rcases List.mem_or_eq_of_mem_set hr with hr | rfl
            · exact h4 r hr
            · exact hn
          obtain ⟨cs', g1, g2, g3, g4⟩ := ih ps' (rows.set i row) rows' c2 (spl cs (i * sz) (a.eval y).cells) h1 hfill hc2 (by
            rw [flatten_set h4 hi]
            have := ((h3.take (i * sz)).append hpr).append (h3.drop (i * sz + sz))
            simpa [spl, hcl] using this) hrows
          refine ⟨cs', ?_, g2, g3, by simpa using g4⟩
          have hfold : (a.eval y).cells.zipIdx.foldl (fun cs (x : Value × Nat) => cs.setIfInBounds (i * sz + x.2) x.1) cs = spl cs (i * sz) (a.eval y).cells := by
            have := fold_spl (a.eval y).cells.toList (i * sz) 0 cs (by simp; omega)
            rw [← Array.foldl_toList, Array.toList_zipIdx]
            simpa using this
          simp only [List.map_cons, Instr.fill]
          rw [if_neg (by simp [hcl]; omega)]
          rw [hfold]
          exact g1
        · cases h2
      · cases h2

theorem made_PRs {fp : Nat → Nat → Prop} {sz n : Nat} {z : List PV} {zs : Array Value} (hzz : PRs fp w zs.toList z) (hzl : z.length = sz) (hpos : 0 < sz) : PRs fp w (madeCells zs (n * sz)).toList (List.replicate n z).flatten := by
  have hzs : zs.size = sz := by have := hzz.1; simp at this; omega
  have hrl : ∀ r ∈ List.replicate n z, r.length = sz := fun r hr => by rw [(List.mem_replicate.1 hr).2]; exact hzl
  refine ⟨by rw [flat_len hrl]; simp [madeCells], fun j u p hu hp => ?_⟩
  obtain ⟨i, r, k, g1, g2, rfl⟩ := flat_get hrl hp
  have hr : r = z := (List.mem_replicate.1 (List.mem_of_getElem? g1)).2
  subst hr
  have hk := (List.getElem?_eq_some_iff.1 g2).1
  rw [hzl] at hk
  simp only [madeCells, Array.toList_map, Array.toList_range, List.getElem?_map, Option.map_eq_some_iff] at hu
  obtain ⟨q, hq, rfl⟩ := hu
  have : q = i * sz + k := by
    obtain ⟨_, hq⟩ := List.getElem?_eq_some_iff.1 hq
    simpa using hq.symm
  subst this
  have e2 : (i * sz + k) % zs.size = k := by
    rw [hzs, Nat.mul_comm, Nat.mul_add_mod, Nat.mod_eq_of_lt hk]
  rw [e2]
  refine hzz.2 k _ p ?_ g2
  rw [getElem!_pos zs k (by omega), Array.getElem?_toList, Array.getElem?_eq_getElem]

theorem put_put (a : Act) (d : Nat) (u v : Value) : (a.put (some d) u).put (some d) v = a.put (some d) v := by simp [Act.put]
theorem up_up (s : S) (k : Key) (u v : AV) : (s.up k u).up k v = s.up k v := by
  funext j
  by_cases h : j = k
  · subst h; rw [S.up_same, S.up_same]
  · rw [S.up_other _ _ h, S.up_other _ _ h, S.up_other _ _ h]
theorem Rel.newSlice (h : Rel X G s a w) {d : Nat} (hd : d < a.tmps.size) (hfree : G.site d = none) (hmd : s (.m d) = .undef) {cs : Array Value} {e : TypeId} {c : AV} {n sz : Nat} (hn : n ≤ maxLen) (hc : V2 (Abs.fp X G) G.site w (.agg cs) c) (hagg : c.isAgg) :
    ∃ G', Rel X G' ((s.up (.m d) c).up (.t d) (.sr d 0 n sz)) (a.put (some d) (.slice (some ⟨w.heap.size, 0, none⟩) n n)) (w.alloc (.cells cs e)) ∧ ∀ x, x ≠ d → G'.site x = G.site x := by
  obtain ⟨G', hR, hs⟩ := h.newSite (e := e) hd hfree hmd hc hagg
  have hp := hR.tmp d
  rw [getD_put_same hd, S.up_same] at hp
  obtain ⟨⟨⟨b, hb, hv⟩, _⟩, _⟩ := hp
  cases hv
  have q := hR.put (d := d) (by rw [put_size]; exact hd) (v := .slice (some ⟨w.heap.size, 0, none⟩) n n) (av := .sr d 0 n sz) ⟨⟨⟨_, n, hb, rfl, Nat.le_refl _, hn⟩, rfl⟩, fun _ _ => rfl⟩
  rw [put_put, up_up] at q
  exact ⟨_, q, hs⟩
theorem i_mks {d : Nat} {z : List PV} {x : Opd} (hR : Rel X G s a w) (hN : a.tmps.size = N) (hfree : G.site d = none) (hmd : s (.m d) = .undef) (hok : okI P N (.mks d z x) o = true) (he : eff s (.mks d z x) = some (c, U)) (hc : c) : Nxt P X G o a w (s.ups U) [d] := by
  simp only [okI, Bool.and_eq_true] at hok
  obtain ⟨h1, h2⟩ := hok
  obtain ⟨hd, hlt⟩ := okDst_spec h1
  simp only [eff] at he
  split at he
  · rename_i k n hev
    cases he
    split at h2
    · rename_i t l cc hop
      simp only [Bool.and_eq_true] at h2
      obtain ⟨⟨hx1, hx2⟩, h2⟩ := h2
      split at h2
      · rename_i e hu
        simp only [Bool.and_eq_true, decide_eq_true_eq] at h2
        obtain ⟨⟨⟨hsz, hpos⟩, hz⟩, hby⟩ := h2
        obtain ⟨ie, hie, hsn⟩ := Option.map_eq_some_iff.1 (by simpa [szOf] using hsz)
        unfold okZero at hz
        split at hz
        · rename_i zv hzv
          unfold zeroOf at hzv
          obtain ⟨it, hit, hzi⟩ := Option.bind_eq_some_iff.1 hzv
          rw [hie] at hit
          cases hit
          simp only [hie, Option.map_some, decide_eq_true_eq] at hby
          obtain ⟨hv, _⟩ := okCells_V2 (w := w) (fp := Abs.fp X G) (site := G.site) hz
          have hzz : PRs (Abs.fp X G) w zv.cells.toList z := by obtain ⟨⟨cs, e1, h1⟩, _⟩ := hv; cases e1; exact h1
          have v1 : V2 (Abs.fp X G) G.site w (a.eval l) (ev s x).dem2 := hR.opd _ _ hx1
          have v2 : V2 (Abs.fp X G) G.site w (a.eval cc) (ev s x).dem2 := hR.opd _ _ hx2
          rw [hev] at v1 v2
          have key : ∀ u : Value, V2 (Abs.fp X G) G.site w u (.pv (.int k n)) → u = .int k n := fun u hu => by obtain ⟨⟨h, _⟩, _⟩ := hu; cases h; rfl
          have u1 : a.eval l = .int k n := key _ v1
          have u2 : a.eval cc = .int k n := key _ v2
          have hbb : (ie.bytes : Int) * n ≤ 281474976710656 := by
            have : (ie.bytes : Int) * n ≤ 1000 * 100000000000 := Int.mul_le_mul (by omega) hc.2 hc.1 (by decide)
            omega
          have hrun := run_make w t e ie zv hu hie hzi k k n n hc.1 (Int.le_refl _) hbb (by omega)
          have hcs := made_PRs (n := n.toNat) hzz rfl hpos
          rw [← hsn] at hcs
          obtain ⟨G', hR', hs⟩ := hR.newSlice (d := d) (e := e) (n := n.toNat) (sz := z.length) (by rw [hN]; exact hlt) hfree hmd (by unfold maxLen; omega) (cs := madeCells zv.cells (n.toNat * ie.size)) (c := .pagg (List.replicate n.toNat z).flatten) ⟨⟨_, rfl, hcs⟩, fun _ => rfl⟩ trivial
          refine Nxt.value (v := .slice (some ⟨w.heap.size, 0, none⟩) n.toNat n.toNat) (w' := w.alloc (.cells (madeCells zv.cells (n.toNat * ie.size)) e)) ?_ (by rw [hd]; exact hR') fun x hx => hs x (by simpa using hx)
          simp only [execOp, hop, u1, u2, Sem.run_bind, hrun, Result.andThen_ok]
          rfl
        · cases hz
      · cases h2
    · cases h2
  · cases he

theorem i_bslice {d e sz n : Nat} {z : List PV} {ps : List (Nat × Opd)} (hR : Rel X G s a w) (hN : a.tmps.size = N) (hok : okI P N (.bslice d e sz n z ps) o = true) (he : eff s (.bslice d e sz n z ps) = some (c, U)) (hc : c) : Nxt P X G o a w (s.ups U) mk := by
  simp only [okI, Bool.and_eq_true] at hok
  obtain ⟨h1, h2⟩ := hok
  obtain ⟨hd, hlt⟩ := okDst_spec h1
  simp only [eff] at he
  split at he
  · rename_i c' rows hfill
    cases he
    split at h2
    · rename_i t n' ps' hop
      simp only [Bool.and_eq_true, beq_iff_eq, decide_eq_true_eq] at h2
      obtain ⟨⟨⟨⟨⟨⟨⟨rfl, hu⟩, hsz⟩, hpos⟩, hsmall⟩, hz⟩, hzl⟩, hps⟩ := h2
      have hu' : P.underlying t = some (.slice e) := by
        unfold uSlice at hu
        split at hu
        · rename_i e' he'; simp at hu; subst hu; exact he'
        · cases hu
      obtain ⟨ie, hie, hsn⟩ := Option.map_eq_some_iff.1 (by simpa [szOf] using hsz)
      unfold okZero at hz
      split at hz
      · rename_i zv hzv
        unfold zeroOf at hzv
        obtain ⟨it, hit, hzi⟩ := Option.bind_eq_some_iff.1 hzv
        rw [hie] at hit
        cases hit
        obtain ⟨hv, _⟩ := okCells_V2 (w := w) (fp := Abs.fp X G) (site := G.site) hz
        have hzz : PRs (Abs.fp X G) w zv.cells.toList z := by obtain ⟨⟨cs, e1, h1⟩, _⟩ := hv; cases e1; exact h1
        have hzs : zv.cells.size = sz := by have := hzz.1; simp at this; omega
        have hrl : ∀ r ∈ List.replicate n z, r.length = sz := fun r hr => by rw [(List.mem_replicate.1 hr).2]; exact hzl
        have h0 : PRs (Abs.fp X G) w ((Array.range (n * sz)).map (zv.cells[· % zv.cells.size]!)).toList (List.replicate n z).flatten := by
          refine ⟨by rw [flat_len hrl]; simp, fun j u p hu hp => ?_⟩
          obtain ⟨i, r, k, g1, g2, rfl⟩ := flat_get hrl hp
          have hr : r = z := (List.mem_replicate.1 (List.mem_of_getElem? g1)).2
          subst hr
          have hk := (List.getElem?_eq_some_iff.1 g2).1
          rw [hzl] at hk
          simp only [Array.toList_map, Array.toList_range, List.getElem?_map, Option.map_eq_some_iff] at hu
          obtain ⟨q, hq, rfl⟩ := hu
          have : q = i * sz + k := by
            obtain ⟨_, hq⟩ := List.getElem?_eq_some_iff.1 hq
            simpa using hq.symm
          subst this
          have e2 : (i * sz + k) % zv.cells.size = k := by
            rw [hzs, Nat.mul_comm, Nat.mul_add_mod, Nat.mod_eq_of_lt hk]
          rw [e2]
          refine hzz.2 k _ p ?_ g2
          rw [getElem!_pos zv.cells k (by omega), Array.getElem?_toList, Array.getElem?_eq_getElem]
        obtain ⟨cs', g1, g2, g3, g4⟩ := fillR_sound hR.opd ps ps'.toList _ rows _ _ hps hfill hc h0 hrl
        rw [List.length_replicate] at g4
        have hrun : (Instr.buildSlice t n (ps'.map fun (i, x) => (i, a.eval x))).run P w = .ok (.slice (some ⟨w.heap.size, 0, none⟩) n n) (w.alloc (.cells cs' e)) := by
          have g1' : Instr.fill (fun i => some (i * ie.size, ie.size)) ((Array.range (n * ie.size)).map (zv.cells[· % zv.cells.size]!)) (ps'.map fun (i, x) => (i, a.eval x)).toList = some cs' := by
            rw [hsn]; simpa using g1
          have hs' : ¬ n * ie.size > 2 ^ 24 := by rw [hsn]; omega
          by_cases h0 : n * ie.size = 0
          · have hn0 : n = 0 := by
              rcases Nat.mul_eq_zero.1 h0 with h | h
              · exact h
              · omega
            subst hn0
            rw [Nat.zero_mul, show Array.range 0 = #[] from rfl, Array.map_empty] at g1'
            have hemp : Array.range 0 = #[] := rfl
            simp at g1'
            simp [Instr.buildSlice, run_underlying hu', sizeOf, typeInfo, zeroValue, hie, hzi, hemp, g1', newRow]
          · exact run_buildSlice w t e n _ cs' ie zv hu' hie hzi hs' h0 g1'
        have hml : rows.length ≤ maxLen := by
          rw [g4]
          have := Nat.le_mul_of_pos_right n hpos
          unfold maxLen
          omega
        obtain ⟨G', hR', hs⟩ := hR.newOwn (d := d) (e := e) (cs := cs') (by rw [hN]; exact hlt) g2 g3 hpos hml
        rw [g4] at hR'
        exact Nxt.value (by simp only [execOp, hop, Sem.run_bind, hrun, Result.andThen_ok]; rfl) (by rw [hd]; exact hR') fun x _ => hs x
      · cases hz
    · cases h2
  · cases he

theorem loadT_none {t : TypeId} (h : okLoadT P t none = true) : isAggT P t = some false := by simp [okLoadT] at h; exact h.1
theorem run_isAgg {t : TypeId} {b : Bool} (h : isAggT P t = some b) (w : World) : (isAgg t).run P w = .ok b w := by
  unfold isAggT at h
  cases hd : P.underlying t with
  | none => simp [hd] at h
  | some d => rw [hd] at h; cases d <;> simp at h <;> subst h <;> simp [isAgg, run_underlying hd]

/-- A site's block. -/
theorem Rel.block (h : Rel X G s a w) {y b : Nat} (hy : G.site y = some b) (hagg : (s (.m y)).isAgg) : ∃ cs rest e, w.heap[b]? = some (.cells (cs ++ rest) e (0, 0)) ∧ VR1 (Abs.fp X G) G.site w (.agg cs) (s (.m y)) (G.own (.m y)) := by
  have hm := h.mem y
  generalize s (.m y) = cc at hm hagg
  cases cc <;> first | exact hagg.elim | skip
  all_goals
    obtain ⟨b', cs, rest, e, h1, h2, h3, _⟩ := hm
    rw [hy] at h1
    cases h1
    exact ⟨cs, rest, e, h2, h3⟩

theorem getc_own {cs : Array Value} {z r : AV} {j : Nat} {ow : Nat → Option (Nat × Nat)} (hz : VR1 fp site w (.agg cs) z ow) (hagg : z.isAgg) (hf : ∀ j g e, ow j = some (g, e) → ∀ o, o < e → fp g o) (hr : getc z j = some r) : ∃ u, cs[j]? = some u ∧ VR0 fp site w u r none := by
  have := hz.dem hf
  have hd : getc z.dem1 j = some r := by
    cases z <;> simp only [AV.isAgg] at hagg
    · exact hr
    · rename_i l
      simp only [getc, AV.dem1, List.getElem?_map, Option.map_map] at hr ⊢
      rw [← hr]
      cases l[j]? with
      | none => rfl
      | some q => cases q <;> rfl
  have hagg' : z.dem1.isAgg := by cases z <;> simp only [AV.isAgg] at hagg <;> trivial
  obtain ⟨cs', u, e1, hu, hv⟩ := V2.getc (VR1_V2 this) hd hagg'
  cases e1
  exact ⟨u, hu, hv⟩

theorem load_agg {cs : Array Value} {z r : AV} {oo k : Nat} {wh : Bool} {ow : Nat → Option (Nat × Nat)} (hz : VR1 fp site w (.agg cs) z ow) (hagg : z.isAgg) (hf : ∀ j g e, ow j = some (g, e) → ∀ o, o < e → fp g o) (hr : loadA z oo (some (k, wh)) = some (c, r)) (hc : c) :
    oo + k ≤ cs.size ∧ V2 fp site w (.agg ((cs.toList.drop oo).take k).toArray) r := by
  have hd := hz.dem hf
  cases z <;> simp only [AV.isAgg] at hagg
  case pagg l =>
    obtain ⟨⟨cs', e, h1⟩, _⟩ := hz
    cases e
    have hl : cs.size = l.length := by simpa using h1.1
    cases wh <;> simp only [loadA, Option.some.injEq, Prod.mk.injEq] at hr <;> obtain ⟨rfl, rfl⟩ := hr
    · exact ⟨by omega, ⟨_, rfl, (h1.drop oo).take k⟩, fun _ => rfl⟩
    · obtain ⟨rfl, rfl⟩ := hc
      refine ⟨by omega, ⟨_, rfl, ?_⟩, fun _ => rfl⟩
      rw [List.drop_zero, ← h1.1, List.take_length]
      exact h1
  case agg l =>
    obtain ⟨⟨cs', e, h1, h2⟩, _⟩ := hd
    cases e
    rw [List.length_map] at h1
    cases wh <;> simp only [loadA, Option.some.injEq, Prod.mk.injEq] at hr <;> obtain ⟨rfl, rfl⟩ := hr
    · refine ⟨by omega, V2.norm ⟨⟨_, rfl, by simp [h1], fun j cc u hj hu => ?_⟩, fun _ _ => rfl⟩⟩
      simp only [List.getElem?_toArray, List.getElem?_map, List.getElem?_take, List.getElem?_drop, Array.getElem?_toList] at hj hu
      split at hu
      · rename_i hjk
        rw [if_pos hjk] at hj
        exact h2 (oo + j) cc u (by rw [List.getElem?_map]; exact hj) hu
      · cases hu
    · obtain ⟨rfl, rfl⟩ := hc
      refine ⟨by omega, V2.norm ⟨⟨_, rfl, by simp [h1], fun j cc u hj hu => ?_⟩, fun _ _ => rfl⟩⟩
      rw [List.drop_zero, ← h1, ← Array.length_toList, List.take_length] at hu
      exact h2 j cc u hj (by simpa using hu)

theorem loadA_isAgg {z : AV} {oo : Nat} {n : Option (Nat × Bool)} {x : Prop × AV} (h : loadA z oo n = some x) : z.isAgg ∨ ∃ l, z = .rp l := by
  cases n with
  | none => cases z <;> simp [loadA, getc, AV.isAgg] at h ⊢
  | some kw => obtain ⟨k, wh⟩ := kw; cases wh <;> cases z <;> simp [loadA, AV.isAgg] at h ⊢

theorem i_load {d : Nat} {n : Option (Nat × Bool)} {st : Option Nat} {x : Opd} (hR : Rel X G s a w) (hN : a.tmps.size = N) (hok : okI P N (.load d n st x) o = true) (he : eff s (.load d n st x) = some (c, U)) (hc : c) : Nxt P X G o a w (s.ups U) mk := by
  simp only [okI, Bool.and_eq_true] at hok
  obtain ⟨h1, h2⟩ := hok
  obtain ⟨hd, hlt⟩ := okDst_spec h1
  split at h2
  · rename_i t y hop
    simp only [Bool.and_eq_true] at h2
    obtain ⟨ht, hx⟩ := h2
    have hv : V2 (Abs.fp X G) G.site w (a.eval y) (ev s x).dem2 := hR.opd _ _ hx
    have fin : ∀ r v, (Instr.loadAt t (a.eval y)).run P w = .ok v w → V2 (Abs.fp X G) G.site w v r → Nxt P X G o a w (s.ups [(.t d, r)]) mk := fun r v hrun hr =>
      Nxt.value (G' := { G with own := clr G.own (.t d) }) (v := v) (by simp only [execOp, hop, Sem.run_bind, hrun, Result.andThen_ok]; rfl) (by rw [hd]; exact hR.put (by rw [hN]; exact hlt) hr) fun _ _ => rfl
    simp only [eff] at he
    split at he
    · rename_i yy oo hev
      rw [hev] at hv
      obtain ⟨b, hb, hav⟩ := hv.ptr
      split at he
      · split at he
        · rename_i c' r hl
          cases he
          have hm := hR.mem yy
          have hagg : (s (.m yy)).isAgg := by
            rcases loadA_isAgg hl with q | ⟨l, q⟩
            · exact q
            · rw [q] at hm
              obtain ⟨_, _, _, _, _, _, _, q⟩ := hm
              exact q.elim
          obtain ⟨cs, rest, e, hblk, hz⟩ := hR.block hb hagg
          have hf := fun j g e (he : G.own (.m yy) j = some (g, e)) o (ho : o < e) => hR.ownfp he ho
          cases n with
          | none =>
            simp only [loadA, Option.map_eq_some_iff, Prod.mk.injEq] at hl
            obtain ⟨r', hl, _, rfl⟩ := hl
            obtain ⟨u, hu, hr⟩ := getc_own hz hagg hf hl
            refine fin _ u ?_ (V2.of0 hr)
            have hcell : w.cell? ⟨b, oo, none⟩ = some u := cell_of_pre hblk hu
            simp [Instr.loadAt, hav, Instr.sureAddr, loadVar, run_isAgg (loadT_none ht), hcell]
          | some kw =>
            obtain ⟨k, wh⟩ := kw
            obtain ⟨q1, q2⟩ := load_agg hz hagg hf hl hc
            refine fin _ _ ?_ q2
            simp only [okLoadT, Bool.and_eq_true, decide_eq_true_eq, szOf] at ht
            obtain ⟨i, hi, hk⟩ := Option.map_eq_some_iff.1 ht.2
            have hlist := run_loadCells_list (P := P) w ⟨b, oo, none⟩ ((cs.toList.drop oo).take k) fun j u hu => by
              rw [Addr.add_mid]; refine cell_of_pre hblk ?_
              simp only [List.getElem?_take, List.getElem?_drop, Array.getElem?_toList] at hu
              split at hu
              · exact hu
              · cases hu
            have hlen : ((cs.toList.drop oo).take k).length = k := by simp; omega
            rw [hlen] at hlist
            simp [Instr.loadAt, hav, Instr.sureAddr, loadVar, run_isAgg ht.1, sizeOf, typeInfo, hi, hk, hlist]
        · cases he
      · cases he
    · rename_i l hev
      rw [hev] at hv
      obtain ⟨b, oo, hav, hcell⟩ := hv.rp
      split at he
      · rename_i c' r hl
        cases he
        cases n with
        | none =>
          simp only [loadA, getc, Option.map_eq_some_iff, Prod.mk.injEq] at hl
          obtain ⟨r', ⟨p, hp, rfl⟩, _, rfl⟩ := hl
          obtain ⟨_, u, hu, hpr⟩ := hcell 0 p hp
          refine fin _ u ?_ (V2.mkpv hpr)
          simp only [Nat.add_zero] at hu
          simp [Instr.loadAt, hav, Instr.sureAddr, loadVar, run_isAgg (loadT_none ht), hu]
        | some kw =>
          obtain ⟨k, wh⟩ := kw
          have hl2 : k ≤ l.length ∧ r = .pagg (l.take k) := by
            cases wh <;> simp only [loadA, Option.some.injEq, Prod.mk.injEq] at hl <;> obtain ⟨rfl, rfl⟩ := hl
            · exact ⟨by omega, by simp⟩
            · obtain ⟨_, rfl⟩ := hc; exact ⟨Nat.le_refl _, by rw [List.take_length]⟩
          obtain ⟨hk, rfl⟩ := hl2
          classical
          have hg : ∀ j p, (l.take k)[j]? = some p → ∃ u, w.cell? ⟨b, oo + j, none⟩ = some u ∧ PR (Abs.fp X G) w u p := fun j p hp => by
            rw [List.getElem?_take] at hp
            split at hp
            · obtain ⟨_, u, hu, hpr⟩ := hcell j p hp; exact ⟨u, hu, hpr⟩
            · cases hp
          have hkl : (l.take k).length = k := by simp; omega
          have hvs : ∀ j u, ((List.range k).map fun j => (w.cell? ⟨b, oo + j, none⟩).getD Go.undef)[j]? = some u → j < k ∧ u = (w.cell? ⟨b, oo + j, none⟩).getD Go.undef := fun j u hu => by
            rw [List.getElem?_map, Option.map_eq_some_iff] at hu
            obtain ⟨q, hq, rfl⟩ := hu
            obtain ⟨h1, h2⟩ := List.getElem?_eq_some_iff.1 hq
            simp at h1 h2
            subst h2
            exact ⟨h1, rfl⟩
          simp only [okLoadT, Bool.and_eq_true, decide_eq_true_eq, szOf] at ht
          obtain ⟨i, hi, hki⟩ := Option.map_eq_some_iff.1 ht.2
          have hlist := run_loadCells_list (P := P) w ⟨b, oo, none⟩ ((List.range k).map fun j => (w.cell? ⟨b, oo + j, none⟩).getD Go.undef) fun j u hu => by
            rw [Addr.add_mid]
            obtain ⟨hj, rfl⟩ := hvs j u hu
            obtain ⟨u, hu, _⟩ := hg j _ (List.getElem?_eq_getElem (by omega))
            simp [hu]
          have hlen : ((List.range k).map fun j => (w.cell? ⟨b, oo + j, none⟩).getD Go.undef).length = k := by simp
          rw [hlen] at hlist
          refine fin _ (.agg ((List.range k).map fun j => (w.cell? ⟨b, oo + j, none⟩).getD Go.undef).toArray) (by simp only [Instr.loadAt, hav, Instr.sureAddr, loadVar, Sem.run_bind, Sem.run_pure, Result.andThen_ok, run_isAgg ht.1, if_true, sizeOf, typeInfo]; simp [hi, hki, hlist]) ⟨⟨_, rfl, by rw [hkl]; simp, fun j u p hu hp => ?_⟩, fun _ => rfl⟩
          obtain ⟨hj, rfl⟩ := hvs j u (by simpa using hu)
          obtain ⟨u, hu', hpr⟩ := hg j p hp
          simpa [hu'] using hpr
      · cases he
    · cases he
  · cases h2
end
end Go.Abs
end

section
/- The abstract machine's operations on memory answer as the model's do: stores, moves out of and into variables, appends. No condition. -/
namespace Go.Abs
open Go.RowKit

section
variable {P : Program} {X : Ctx} {G G' : Gh} {s s' : S} {a : Act} {w w' : World} {o : Oper} {c : Prop} {U : List (Key × AV)} {v : Value} {N : Nat} {mk : List Nat}
variable {fp : Nat → Nat → Prop} {site : Nat → Option Nat}

theorem spl_pre {cs rest : Array Value} {vs : List Value} {oo k : Nat} (h1 : oo ≤ cs.size) (h2 : k ≤ cs.size) : ((cs ++ rest).toList.take oo ++ vs ++ (cs ++ rest).toList.drop k).toArray = (cs.toList.take oo ++ vs ++ cs.toList.drop k).toArray ++ rest := by
  apply Array.toList_inj.1
  simp only [Array.toList_append]
  rw [List.take_append_of_le_length (by simp; omega), List.drop_append_of_le_length (by simp; omega)]
  simp only [List.append_assoc]
/-- A variable is written. -/
theorem run_store {t : TypeId} {b oo k : Nat} {vs : List Value} {u : Value} {cs rest : Array Value} {e : TypeId} (hblk : w.heap[b]? = some (.cells (cs ++ rest) e (0, 0))) (hu : u.cells.toList = vs) (hk : vs.length = k) (hsz : szOf P t k = true) (hfit : oo + k ≤ cs.size) (h1 : ∀ x ∈ vs, x.oneCell' = true) :
    (Instr.storeAt t (.pointer (some ⟨b, oo, none⟩)) u).run P w = .ok () (w.setRow b ((cs.toList.take oo ++ vs ++ cs.toList.drop (oo + vs.length)).toArray ++ rest)) := by
  have := run_storeCells_at P b oo e vs 0 (cs ++ rest) w hblk (by rw [Array.size_append]; omega) h1
  rw [Nat.add_zero, spl_pre (by omega) (by omega)] at this
  simp only [szOf, decide_eq_true_eq] at hsz
  obtain ⟨i, hi, hn⟩ := Option.map_eq_some_iff.1 hsz
  have hcs : u.cells.size = k := by rw [← hk, ← hu]; simp
  simp only [Instr.storeAt, Instr.sureAddr, storeVar, Sem.run_bind, Sem.run_pure, Result.andThen_ok, sizeOf, typeInfo]
  simp [hi, hn, hcs, hu, this]

def owR (own : Key → Nat → Option (Nat × Nat)) (y : Nat) (f : Nat → Option (Nat × Nat)) : Key → Nat → Option (Nat × Nat) := fun k j => if k = .m y then f j else own k j

/-- A store that moves nothing. -/
theorem Rel.storeSite (h : Rel X G s a w) {y b : Nat} (hy : G.site y = some b) {cs cs' rest : Array Value} {e : TypeId} (hb : w.heap[b]? = some (.cells (cs ++ rest) e (0, 0))) {r : AV} (f : Nat → Option (Nat × Nat)) (hf : ∀ j be, f j = some be → G.own (.m y) j = some be)
    (hc : VR1 (Abs.fp X G) G.site w (.agg cs') r f) (hagg : r.isAgg) : Rel X { G with own := owR G.own y f } (s.up (.m y) r) a (w.setRow b (cs' ++ rest)) := by
  have hsub : ∀ k j be, owR G.own y f k j = some be → G.own k j = some be := fun k j be hk => by
    unfold owR at hk
    split at hk
    · rename_i hky; subst hky; exact hf j be hk
    · exact hk
  refine h.setSite hy hb (owR G.own y f) (fun k j be hk => ⟨k, j, hsub k j be hk⟩) (fun k j k' j' b e e' h1 h2 => h.ownI _ _ _ _ _ _ _ (hsub _ _ _ h1) (hsub _ _ _ h2)) (fun t => ?_) (fun x hx => ?_) ?_ ?_ h.df
  · rw [S.up_other _ _ (by simp)]
    have e1 : owR G.own y f (.t t) = G.own (.t t) := by funext j; simp [owR]
    rw [e1]
    exact h.tmp t
  · rw [S.up_other _ _ (by simp [hx])]
    have e1 : owR G.own y f (.m x) = G.own (.m x) := by funext j; simp [owR, hx]
    rw [e1]
    exact h.mem x
  · rw [S.up_same]
    have e1 : owR G.own y f (.m y) = f := by funext j; simp [owR]
    rw [e1]
    exact hc
  · rw [S.up_same]; exact hagg

theorem agg_one {lv : List AV} {vs : Array Value} (hv : V2 fp site w (.agg vs) (.agg lv)) (hst : lv.all AV.storable = true) : ∀ x ∈ vs.toList, x.oneCell' = true := by
  obtain ⟨⟨vs', e, h1, h2⟩, _⟩ := hv
  cases e
  intro x hx
  obtain ⟨j, hj⟩ := List.getElem?_of_mem hx
  have hjl : j < lv.length := by rw [← h1, ← Array.length_toList]; exact (List.getElem?_eq_some_iff.1 hj).1
  have := h2 j _ x (List.getElem?_eq_getElem hjl) (by simpa using hj)
  exact (this.one (List.all_eq_true.1 hst _ (List.getElem_mem hjl))).1

theorem putA_isAgg {z v r : AV} {oo : Nat} (h : putA z oo v = some (c, r)) : z.isAgg := by
  cases z <;> first | trivial | simp [putA] at h

theorem storeA_isAgg {z v r : AV} {oo : Nat} {n : Option (Nat × Bool)} (h : storeA z oo v n = some (c, r)) : z.isAgg := by
  cases n with
  | none =>
    simp only [storeA] at h
    split at h
    · exact putA_isAgg h
    · cases h
  | some kw =>
    obtain ⟨k, wh⟩ := kw
    cases wh
    · cases v <;> simp only [storeA, Option.map_eq_some_iff, reduceCtorEq] at h
      · obtain ⟨⟨c', r'⟩, h, _⟩ := h; exact putA_isAgg h
      · obtain ⟨⟨c', r'⟩, h, _⟩ := h; exact putA_isAgg h
    · cases z <;> first | trivial | (cases v <;> simp [storeA] at h)

/-- What a store leaves of a variable's cells. -/
theorem storeA_sound {z v0 r : AV} {oo : Nat} {n : Option (Nat × Bool)} {cs : Array Value} {ow : Nat → Option (Nat × Nat)} {u : Value} {t : TypeId} (hz : VR1 fp site w (.agg cs) z ow) (hw : V2 fp site w u v0) (ht : okLoadT P t n = true) (hs : storeA z oo v0 n = some (c, r)) (hc : c) :
    ∃ k, u.cells.size = k ∧ szOf P t k = true ∧ oo + k ≤ cs.size ∧ (∀ x ∈ u.cells.toList, x.oneCell' = true) ∧ ∃ f, (∀ j be, f j = some be → ow j = some be) ∧ VR1 fp site w (.agg (spl cs oo u.cells)) r f ∧ r.isAgg := by
  have hagg := storeA_isAgg hs
  cases n with
  | none =>
    simp only [storeA] at hs
    split at hs
    · rename_i hst
      have hv0 := V2_VR0 hw hst
      obtain ⟨h1, h2⟩ := hv0.one hst
      obtain ⟨q1, q2, q3⟩ := put0 hz hagg hv0 hst hs hc
      simp only [okLoadT, Bool.and_eq_true] at ht
      rw [h2]
      refine ⟨1, rfl, ht.2, q1, by simpa using h1, _, fun j be hj => ?_, by rw [spl_one q1]; exact q2, q3⟩
      unfold ow1 at hj
      split at hj
      · cases hj
      · exact hj
    · cases hs
  | some kw =>
    obtain ⟨k, wh⟩ := kw
    simp only [okLoadT, Bool.and_eq_true] at ht
    have hva : v0.isAgg := by cases wh <;> cases v0 <;> first | trivial | (simp [storeA] at hs; done) | (cases z <;> simp [storeA] at hs)
    have hw1 := V2_VR1 hw hva
    obtain ⟨vs, rfl⟩ : ∃ vs, u = .agg vs := by
      cases v0 <;> simp only [AV.isAgg] at hva
      · obtain ⟨⟨vs, rfl, _⟩, _⟩ := hw1; exact ⟨vs, rfl⟩
      · obtain ⟨⟨vs, rfl, _⟩, _⟩ := hw1; exact ⟨vs, rfl⟩
    have hvs : vs.size = avSize v0 := by
      cases v0 <;> simp only [AV.isAgg] at hva
      · obtain ⟨⟨vs', e, h1⟩, _⟩ := hw1; cases e; simpa [avSize] using h1.1
      · obtain ⟨⟨vs', e, h1, _⟩, _⟩ := hw1; cases e; exact h1
    have hzs : cs.size = avSize z := by
      cases z <;> simp only [AV.isAgg] at hagg
      · obtain ⟨⟨vs', e, h1⟩, _⟩ := hz; cases e; simpa [avSize] using h1.1
      · obtain ⟨⟨vs', e, h1, _⟩, _⟩ := hz; cases e; exact h1
    have hone : (∀ lv, v0 = .agg lv → lv.all AV.storable = true) → ∀ x ∈ vs.toList, x.oneCell' = true := fun hh => by
      cases v0 <;> simp only [AV.isAgg] at hva
      · obtain ⟨⟨vs', e, h1⟩, _⟩ := hw1; cases e; exact h1.one
      · exact agg_one hw (hh _ rfl)
    cases wh
    · have hp : ∃ c', putA z oo v0 = some (c', r) ∧ c' ∧ avSize v0 = k := by
        cases v0 <;> simp only [AV.isAgg] at hva <;> simp only [storeA, Option.map_eq_some_iff, Prod.mk.injEq] at hs
        all_goals
          obtain ⟨⟨c', r'⟩, h1, h2, h3⟩ := hs
          dsimp only at h3 h2
          subst h3
          subst h2
          exact ⟨c', h1, hc.2, hc.1⟩
      obtain ⟨c', hp, hc', hk⟩ := hp
      obtain ⟨q1, q2, q3, q4⟩ := putN hz hagg hw1 hva hp hc'
      refine ⟨k, by rw [← hk]; exact hvs, ht.2, by omega, hone fun lv hlv => ?_, _, fun j be hj => ?_, q2, q3⟩
      · subst hlv
        cases z <;> simp only [AV.isAgg] at hagg <;> simp only [putA, Option.some.injEq, Prod.mk.injEq] at hp <;> obtain ⟨rfl, rfl⟩ := hp <;> exact hc'.2
      · unfold owN at hj
        split at hj
        · cases hj
        · exact hj
    · have hfin : oo = 0 ∧ avSize v0 = k ∧ avSize z = k ∧ r = v0 ∧ ∀ lv, v0 = .agg lv → lv.all AV.storable = true := by
        cases z <;> simp only [AV.isAgg] at hagg <;> cases v0 <;> simp only [AV.isAgg] at hva <;> simp only [storeA, Option.some.injEq, Prod.mk.injEq] at hs <;> obtain ⟨rfl, rfl⟩ := hs
        · exact ⟨hc.1, hc.2.1, hc.2.2, rfl, fun lv h => by cases h⟩
        · exact ⟨hc.1, hc.2.1, hc.2.2.1, rfl, fun lv h => by cases h; exact hc.2.2.2⟩
        · exact ⟨hc.1, hc.2.1, hc.2.2, rfl, fun lv h => by cases h⟩
        · exact ⟨hc.1, hc.2.1, hc.2.2.1, rfl, fun lv h => by cases h; exact hc.2.2.2⟩
      obtain ⟨rfl, hk, hk2, rfl, hall⟩ := hfin
      refine ⟨k, by rw [← hk]; exact hvs, ht.2, by omega, hone hall, fun _ => none, fun j be hj => (by cases hj), ?_, hva⟩
      have e1 : spl cs 0 (Value.agg vs).cells = vs := by
        simp only [spl, List.take_zero, List.nil_append, Nat.zero_add, Value.cells]
        rw [List.drop_of_length_le (by simp; omega), List.append_nil]
      rw [e1]
      exact hw1

theorem i_store {n : Option (Nat × Bool)} {st : Option Nat} {x v : Opd} (hR : Rel X G s a w) (hok : okI P N (.store n st x v) o = true) (he : eff s (.store n st x v) = some (c, U)) (hc : c) : Nxt P X G o a w (s.ups U) mk := by
  simp only [okI, Bool.and_eq_true, decide_eq_true_eq] at hok
  obtain ⟨hd, h2⟩ := hok
  split at h2
  · rename_i t y u hop
    simp only [Bool.and_eq_true] at h2
    obtain ⟨⟨ht, hx⟩, hu⟩ := h2
    have hv : V2 (Abs.fp X G) G.site w (a.eval y) (ev s x).dem2 := hR.opd _ _ hx
    have hw : V2 (Abs.fp X G) G.site w (a.eval u) (stv s v) := by
      have h0 : V2 (Abs.fp X G) G.site w (a.eval u) (ev s v).dem2 := hR.opd _ _ hu
      unfold stv
      split
      · rename_i e sz
        cases u with
        | const u => exact okC_sound hu
        | _ => cases hu
      · exact h0
    simp only [eff] at he
    split at he
    · rename_i yy oo hev
      rw [hev] at hv
      obtain ⟨b, hb, hav⟩ := hv.ptr
      split at he
      · split at he
        · rename_i c' r hl
          cases he
          obtain ⟨cs, rest, e, hblk, hz⟩ := hR.block hb (storeA_isAgg hl)
          obtain ⟨k, h1, h3, h4, h5, f, h6, h7, h8⟩ := storeA_sound hz hw ht hl hc
          have hrun := run_store (P := P) (u := a.eval u) hblk rfl (by simpa using h1) h3 h4 h5
          have e1 : (cs.toList.take oo ++ (a.eval u).cells.toList ++ cs.toList.drop (oo + (a.eval u).cells.toList.length)).toArray = spl cs oo (a.eval u).cells := by simp [spl]
          rw [e1] at hrun
          exact Nxt.skip (G' := { G with own := owR G.own yy f }) (by simp only [execOp, hop, hav, Sem.run_bind, hrun, Result.andThen_ok]; rfl) hd (hR.storeSite hb hblk f h6 h7 h8) fun _ _ => rfl
        · cases he
      · cases he
    · cases he
  · cases h2

theorem os_one {e sz : Nat} {es : List (List PV)} {ow : Option (Nat × Nat)} (h : OSR fp w v e sz es ow) : v.oneCell' = true ∧ v.cells = #[v] := by
  obtain ⟨xs, h1, _⟩ := h
  rcases h1.2 with ⟨rfl, _⟩ | ⟨g, cap, cur, rfl, _⟩ <;> exact ⟨rfl, rfl⟩

def mvTM (own : Key → Nat → Option (Nat × Nat)) (n y oo : Nat) : Key → Nat → Option (Nat × Nat) := fun k j => if k = .m y ∧ j = oo then own (.t n) 0 else if k = .t n then none else own k j
def mvMT (own : Key → Nat → Option (Nat × Nat)) (y oo d : Nat) : Key → Nat → Option (Nat × Nat) := fun k j => if k = .t d then (if j = 0 then own (.m y) oo else none) else if k = .m y ∧ j = oo then none else own k j

theorem i_storemv {st : Option Nat} {x : Opd} {n : Nat} (hR : Rel X G s a w) (hok : okI P N (.storemv st x n) o = true) (he : eff s (.storemv st x n) = some (c, U)) (hc : c) : Nxt P X G o a w (s.ups U) mk := by
  simp only [okI, Bool.and_eq_true, decide_eq_true_eq] at hok
  obtain ⟨hd, h2⟩ := hok
  split at h2
  · rename_i t y m hop
    simp only [Bool.and_eq_true, beq_iff_eq] at h2
    obtain ⟨⟨ht, hx⟩, rfl⟩ := h2
    have hv : V2 (Abs.fp X G) G.site w (a.eval y) (ev s x).dem2 := hR.opd _ _ hx
    simp only [eff] at he
    split at he
    · rename_i yy oo hev
      rw [hev] at hv
      obtain ⟨b, hb, hav⟩ := hv.ptr
      split at he
      · split at he
        · rename_i e sz es hsn
          have htn := hR.tmp m
          rw [hsn] at htn
          obtain ⟨hos, hos2⟩ := htn
          have hone := os_one hos
          have key : ∀ (l : List AV) (z : AV), s (.m yy) = z → z.isAgg → putA z oo (.os e sz es) = some (oo < l.length, .agg (l.set oo (.os e sz es))) → oo < l.length →
              Nxt P X G o a w (s.ups [(.t m, .pv (.sl sz es)), (.m yy, .agg (l.set oo (.os e sz es)))]) mk := by
            intro l z hz hagg hput hlt
            obtain ⟨cs, rest, et, hblk, hzv⟩ := hR.block hb (by rw [hz]; exact hagg)
            rw [hz] at hzv
            obtain ⟨q1, q2, q3⟩ := put0 (ov := G.own (.t m) 0) hzv hagg (v0 := .os e sz es) hos rfl hput hlt
            simp only [okLoadT, Bool.and_eq_true] at ht
            have hev : a.eval (.tmp m) = a.tmps.getD m Go.undef := rfl
            have hrun := run_store (P := P) (t := t) (u := a.eval (.tmp m)) (vs := [a.tmps.getD m Go.undef]) (k := 1) (oo := oo) hblk (by rw [hev, hone.2]) rfl ht.2 q1 (by simpa using hone.1)
            have e1 : (cs.toList.take oo ++ [a.tmps.getD m Go.undef] ++ cs.toList.drop (oo + [a.tmps.getD m Go.undef].length)).toArray = cs.setIfInBounds oo (a.tmps.getD m Go.undef) := by rw [← spl_one q1]; simp [spl]
            rw [e1] at hrun
            refine Nxt.skip (G' := { G with own := mvTM G.own m yy oo }) (by simp only [execOp, hop, hav, Sem.run_bind, hrun, Result.andThen_ok]; rfl) hd (hR.setSite hb hblk _ (fun k j be hk => ?_) (fun k j k' j' b1 e2 e3 h1 h2 => ?_) (fun t => ?_) (fun x hx => ?_) ?_ ?_ hR.df) fun _ _ => rfl
            · unfold mvTM at hk
              split at hk
              · exact ⟨_, _, hk⟩
              · split at hk
                · cases hk
                · exact ⟨_, _, hk⟩
            · unfold mvTM at h1 h2
              split at h1
              · rename_i p1
                split at h2
                · rename_i p2
                  exact ⟨p1.1.trans p2.1.symm, p1.2.trans p2.2.symm⟩
                · split at h2
                  · cases h2
                  · rename_i p2 p3
                    exact absurd (hR.ownI _ _ _ _ _ _ _ h1 h2).1.symm p3
              · split at h1
                · cases h1
                · rename_i p1 p3
                  split at h2
                  · exact absurd (hR.ownI _ _ _ _ _ _ _ h1 h2).1 p3
                  · split at h2
                    · cases h2
                    · exact hR.ownI _ _ _ _ _ _ _ h1 h2
            · simp only [S.ups]
              rw [S.up_other _ _ (by simp)]
              by_cases htm : t = m
              · subst htm
                rw [S.up_same]
                have e2 : mvTM G.own t yy oo (.t t) = fun _ => none := by funext j; simp [mvTM]
                rw [e2]
                exact V2.of0 (VR0.dem (a := .os e sz es) hos fun g e he o ho => hR.ownfp he ho)
              · rw [S.up_other _ _ (by simp [htm])]
                have e2 : mvTM G.own m yy oo (.t t) = G.own (.t t) := by funext j; simp [mvTM, htm]
                rw [e2]
                exact hR.tmp t
            · simp only [S.ups]
              rw [S.up_other _ _ (by simp [hx]), S.up_other _ _ (by simp)]
              have e2 : mvTM G.own m yy oo (.m x) = G.own (.m x) := by funext j; simp [mvTM, hx]
              rw [e2]
              exact hR.mem x
            · simp only [S.ups]
              rw [S.up_same]
              have e2 : mvTM G.own m yy oo (.m yy) = ow1 (G.own (.m yy)) oo (G.own (.t m) 0) := by funext j; simp [mvTM, ow1]
              rw [e2]
              exact q2
            · simp only [S.ups]
              rw [S.up_same]
              trivial
          split at he
          · rename_i l hz
            cases he
            have := key (l.map AV.pv) _ hz trivial (by simp [putA, AV.storable]) (by simpa using hc)
            simpa using this
          · rename_i l hz
            cases he
            exact key l _ hz trivial (by simp [putA, AV.storable]) hc
          · cases he
        · cases he
      · cases he
    · cases he
  · cases h2

def mvTA (own : Key → Nat → Option (Nat × Nat)) (n y : Nat) : Key → Nat → Option (Nat × Nat) := fun k j => if k = .m y then own (.t n) j else if k = .t n then none else own k j
theorem storable_dem {l : List AV} (h : l.all AV.storable = true) : (l.map AV.dem0).all AV.storable = true := by
  rw [List.all_map]
  rw [List.all_eq_true] at h ⊢
  intro a ha
  have := h a ha
  cases a <;> first | rfl | (simp [AV.storable] at this)
theorem i_storemva {k : Nat} {st : Option Nat} {x : Opd} {n : Nat} (hR : Rel X G s a w) (hok : okI P N (.storemva k st x n) o = true) (he : eff s (.storemva k st x n) = some (c, U)) (hc : c) : Nxt P X G o a w (s.ups U) mk := by
  simp only [okI, Bool.and_eq_true, decide_eq_true_eq] at hok
  obtain ⟨hd, h2⟩ := hok
  split at h2
  · rename_i t y m hop
    simp only [Bool.and_eq_true, beq_iff_eq] at h2
    obtain ⟨⟨ht, hx⟩, rfl⟩ := h2
    have hv : V2 (Abs.fp X G) G.site w (a.eval y) (ev s x).dem2 := hR.opd _ _ hx
    have hw : V2 (Abs.fp X G) G.site w (a.eval (.tmp m)) (s (.t m)).dem2 := hR.opd (.t m) (.tmp m) (by simp [okX])
    simp only [eff] at he
    split at he
    · rename_i yy oo hev
      rw [hev] at hv
      obtain ⟨b, hb, hav⟩ := hv.ptr
      split at he
      · split at he
        · rename_i l hsn
          have htn := hR.tmp m
          rw [hsn] at htn
          rw [hsn] at hw
          have hwn : V2 (Abs.fp X G) G.site w (a.eval (.tmp m)) (.agg (l.map AV.dem0)) := hw
          have hvs0 := htn
          obtain ⟨⟨vs, hvs, hsz, hcells⟩, hbnd⟩ := htn
          have hevm : a.eval (.tmp m) = .agg vs := hvs
          have key : (s (.m yy)).isAgg → avSize (s (.m yy)) = k → oo = 0 ∧ l.length = k ∧ l.all AV.storable = true →
              Nxt P X G o a w (s.ups [(.t m, .agg (l.map AV.dem0)), (.m yy, .agg l)]) mk := by
            intro hagg hzk hcc
            obtain ⟨rfl, hlk, hall⟩ := hcc
            obtain ⟨cs, rest, et, hblk, hzv⟩ := hR.block hb hagg
            have hzs : cs.size = k := by
              rw [← hzk]
              cases hz : s (.m yy) <;> rw [hz] at hagg hzv <;> simp only [AV.isAgg] at hagg
              · obtain ⟨⟨vs', e, h1⟩, _⟩ := hzv; cases e; simpa [avSize] using h1.1
              · obtain ⟨⟨vs', e, h1, _⟩, _⟩ := hzv; cases e; exact h1
            have hone : ∀ x ∈ vs.toList, x.oneCell' = true := agg_one (hevm ▸ hwn) (storable_dem hall)
            simp only [okLoadT, Bool.and_eq_true] at ht
            have hrun := run_store (P := P) (t := t) (u := a.eval (.tmp m)) (vs := vs.toList) (k := k) (oo := 0) hblk (by rw [hevm]; rfl) (by simp [hsz, hlk]) ht.2 (by omega) hone
            have e1 : (cs.toList.take 0 ++ vs.toList ++ cs.toList.drop (0 + vs.toList.length)).toArray = vs := by
              rw [List.drop_of_length_le (by simp; omega)]
              simp
            rw [e1] at hrun
            refine Nxt.skip (G' := { G with own := mvTA G.own m yy }) (by simp only [execOp, hop, hav, Sem.run_bind, hrun, Result.andThen_ok]; rfl) hd (hR.setSite hb hblk _ (fun k j be hk => ?_) (fun k j k' j' b1 e2 e3 h1 h2 => ?_) (fun t => ?_) (fun x hx => ?_) ?_ ?_ hR.df) fun _ _ => rfl
            · unfold mvTA at hk
              split at hk
              · exact ⟨_, _, hk⟩
              · split at hk
                · cases hk
                · exact ⟨_, _, hk⟩
            · unfold mvTA at h1 h2
              split at h1
              · rename_i p1
                split at h2
                · rename_i p2
                  exact ⟨p1.trans p2.symm, (hR.ownI _ _ _ _ _ _ _ h1 h2).2⟩
                · split at h2
                  · cases h2
                  · rename_i p2 p3
                    exact absurd (hR.ownI _ _ _ _ _ _ _ h1 h2).1.symm p3
              · split at h1
                · cases h1
                · rename_i p1 p3
                  split at h2
                  · exact absurd (hR.ownI _ _ _ _ _ _ _ h1 h2).1 p3
                  · split at h2
                    · cases h2
                    · exact hR.ownI _ _ _ _ _ _ _ h1 h2
            · simp only [S.ups]
              rw [S.up_other _ _ (by simp)]
              by_cases htm : t = m
              · subst htm
                rw [S.up_same]
                have e2 : mvTA G.own t yy (.t t) = fun _ => none := by funext j; simp [mvTA]
                rw [e2]
                exact hwn
              · rw [S.up_other _ _ (by simp [htm])]
                have e2 : mvTA G.own m yy (.t t) = G.own (.t t) := by funext j; simp [mvTA, htm]
                rw [e2]
                exact hR.tmp t
            · simp only [S.ups]
              rw [S.up_other _ _ (by simp [hx]), S.up_other _ _ (by simp)]
              have e2 : mvTA G.own m yy (.m x) = G.own (.m x) := by funext j; simp [mvTA, hx]
              rw [e2]
              exact hR.mem x
            · simp only [S.ups]
              rw [S.up_same]
              have e2 : mvTA G.own m yy (.m yy) = G.own (.t m) := by funext j; simp [mvTA]
              rw [e2]
              exact ⟨⟨vs, rfl, hsz, hcells⟩, hbnd⟩
            · simp only [S.ups]
              rw [S.up_same]
              trivial
          split at he
          · rename_i l' hz
            cases he
            exact key (by rw [hz]; trivial) (by rw [hz]; exact hc.2.2.1) ⟨hc.1, hc.2.1, hc.2.2.2⟩
          · rename_i l' hz
            cases he
            exact key (by rw [hz]; trivial) (by rw [hz]; exact hc.2.2.1) ⟨hc.1, hc.2.1, hc.2.2.2⟩
          · cases he
        · cases he
      · cases he
    · cases he
  · cases h2

theorem i_loadmv {d : Nat} {st : Option Nat} {x : Opd} (hR : Rel X G s a w) (hN : a.tmps.size = N) (hok : okI P N (.loadmv d st x) o = true) (he : eff s (.loadmv d st x) = some (c, U)) (hc : c) : Nxt P X G o a w (s.ups U) mk := by
  simp only [okI, Bool.and_eq_true] at hok
  obtain ⟨h1, h2⟩ := hok
  obtain ⟨hd, hlt⟩ := okDst_spec h1
  split at h2
  · rename_i t y hop
    simp only [Bool.and_eq_true] at h2
    obtain ⟨ht, hx⟩ := h2
    have hv : V2 (Abs.fp X G) G.site w (a.eval y) (ev s x).dem2 := hR.opd _ _ hx
    simp only [eff] at he
    split at he
    · rename_i yy oo hev
      rw [hev] at hv
      obtain ⟨b, hb, hav⟩ := hv.ptr
      split at he
      · split at he
        · rename_i l hz
          split at he
          · rename_i e sz es hl
            cases he
            obtain ⟨cs, rest, et, hblk, hzv⟩ := hR.block hb (by rw [hz]; trivial)
            rw [hz] at hzv
            have hzv0 := hzv
            obtain ⟨⟨cs', e1, h3, h4⟩, h5⟩ := hzv
            cases e1
            have hlt2 : oo < cs.size := by rw [h3]; exact (List.getElem?_eq_some_iff.1 hl).1
            have hu := h4 oo _ cs[oo] hl (Array.getElem?_eq_getElem hlt2)
            have hcell : w.cell? ⟨b, oo, none⟩ = some cs[oo] := cell_of_pre hblk (Array.getElem?_eq_getElem hlt2)
            have hrun : (Instr.loadAt t (a.eval y)).run P w = .ok cs[oo] w := by
              generalize cs[oo] = u at hcell
              simp [hav, Instr.loadAt, Instr.sureAddr, loadVar, run_isAgg (loadT_none ht), hcell]
            refine Nxt.value (G' := { G with own := mvMT G.own yy oo d }) (v := cs[oo]) (by simp only [execOp, hop, Sem.run_bind, hrun, Result.andThen_ok]; rfl) ?_ fun _ _ => rfl
            rw [hd]
            refine hR.same _ (fun k j be hk => ?_) (fun k j k' j' b1 e2 e3 g1 g2 => ?_) (fun t => ?_) (fun x => ?_) ((put_defers _ _ _).trans hR.df)
            · unfold mvMT at hk
              split at hk
              · split at hk
                · exact ⟨_, _, hk⟩
                · cases hk
              · split at hk
                · cases hk
                · exact ⟨_, _, hk⟩
            · have key : ∀ k j e, mvMT G.own yy oo d k j = some (b1, e) → (k = .t d ∧ j = 0 ∧ G.own (.m yy) oo = some (b1, e)) ∨ (k ≠ .t d ∧ ¬ (k = .m yy ∧ j = oo) ∧ G.own k j = some (b1, e)) := fun k j e hk => by
                unfold mvMT at hk
                split at hk
                · split at hk
                  · exact Or.inl ⟨by assumption, by assumption, hk⟩
                  · cases hk
                · split at hk
                  · cases hk
                  · exact Or.inr ⟨by assumption, by assumption, hk⟩
              rcases key _ _ _ g1 with ⟨r1, r2, r3⟩ | ⟨r1, r2, r3⟩ <;> rcases key _ _ _ g2 with ⟨p1, p2, p3⟩ | ⟨p1, p2, p3⟩
              · exact ⟨r1.trans p1.symm, r2.trans p2.symm⟩
              · have := hR.ownI _ _ _ _ _ _ _ r3 p3; exact absurd ⟨this.1.symm, this.2.symm⟩ p2
              · have := hR.ownI _ _ _ _ _ _ _ r3 p3; exact absurd ⟨this.1, this.2⟩ r2
              · exact hR.ownI _ _ _ _ _ _ _ r3 p3
            · simp only [S.ups]
              by_cases htd : t = d
              · subst htd
                rw [getD_put_same (by rw [hN]; exact hlt), S.up_same]
                have e2 : mvMT G.own yy oo t (.t t) = at0 (G.own (.m yy) oo) := by funext j; simp [mvMT, at0]
                rw [e2]
                exact ⟨hu, fun j hj => by simp [at0, show j ≠ 0 by omega]⟩
              · rw [getD_put_other htd, S.up_other _ _ (by simp [htd]), S.up_other _ _ (by simp)]
                have e2 : mvMT G.own yy oo d (.t t) = G.own (.t t) := by funext j; simp [mvMT, htd]
                rw [e2]
                exact hR.tmp t
            · simp only [S.ups]
              rw [S.up_other _ _ (by simp)]
              by_cases hxy : x = yy
              · subst hxy
                rw [S.up_same]
                have e2 : mvMT G.own x oo d (.m x) = ow1 (G.own (.m x)) oo none := by funext j; simp [mvMT, ow1]
                rw [e2]
                have hlt3 : oo < l.length := by omega
                obtain ⟨q1, q2, q3⟩ := put0 (o := oo) (ov := none) (c := oo < l.length) (r := .agg (l.set oo (.pv (.sl sz es)))) hzv0 trivial (v0 := .pv (.sl sz es)) (u := cs[oo]) (VR0.dem (a := .os e sz es) hu fun g e he o ho => hR.ownfp he ho) rfl (by simp [putA, AV.storable]) hlt3
                have e3 : cs.setIfInBounds oo cs[oo] = cs := by
                  apply Array.ext_getElem?
                  intro j
                  rw [Array.getElem?_setIfInBounds]
                  split
                  · rename_i hj; subst hj; simp [hlt2]
                  · rfl
                rw [e3] at q2
                exact ⟨b, cs, rest, et, hb, hblk, q2, trivial⟩
              · rw [S.up_other _ _ (by simp [hxy])]
                have e2 : mvMT G.own yy oo d (.m x) = G.own (.m x) := by funext j; simp [mvMT, hxy]
                rw [e2]
                exact hR.mem x
          · cases he
        · cases he
      · cases he
    · cases he
  · cases h2

/-- The cells of what is appended. -/
theorem PR.rows {sz : Nat} {es : List (List PV)} (h : PR fp w v (.sl sz es)) (hn : es ≠ []) : ∃ A cap news, v = .slice A es.length cap ∧ news.length = es.length * sz ∧ PRs fp w news es.flatten ∧ (∃ ad, A = some ad ∧ ∀ (j : Nat) u, news[j]? = some u → w.cell? (ad.add j) = some u) ∧ ∀ r ∈ es, r.length = sz := by
  classical
  obtain ⟨A, cap, rfl, _, _, _, hne⟩ := h.slInv
  obtain ⟨b, oo, rfl, hl, hcell⟩ := hne hn
  have hfl := flat_len hl
  have hg : ∀ (j : Nat) p, es.flatten[j]? = some p → ∃ u, w.cell? ⟨b, oo + j, none⟩ = some u ∧ PR fp w u p := fun j p hp => by
    obtain ⟨i, r, k, h1, h2, rfl⟩ := flat_get hl hp
    obtain ⟨_, u, hu, hpr⟩ := hcell _ _ _ _ h1 h2
    exact ⟨u, by rw [← Nat.add_assoc]; exact hu, hpr⟩
  have hvs : ∀ (j : Nat) u, ((List.range (es.length * sz)).map fun j => (w.cell? ⟨b, oo + j, none⟩).getD Go.undef)[j]? = some u → j < es.length * sz ∧ u = (w.cell? ⟨b, oo + j, none⟩).getD Go.undef := fun j u hu => by
    rw [List.getElem?_map, Option.map_eq_some_iff] at hu
    obtain ⟨q, hq, rfl⟩ := hu
    obtain ⟨h1, h2⟩ := List.getElem?_eq_some_iff.1 hq
    simp at h1 h2
    subst h2
    exact ⟨h1, rfl⟩
  refine ⟨_, cap, (List.range (es.length * sz)).map fun j => (w.cell? ⟨b, oo + j, none⟩).getD Go.undef, rfl, by simp, ⟨by simp [hfl], fun j u p hu hp => ?_⟩, ⟨_, rfl, fun j u hu => ?_⟩, hl⟩
  · obtain ⟨_, rfl⟩ := hvs j u hu
    obtain ⟨u, hu, hpr⟩ := hg j p hp
    simpa [hu] using hpr
  · obtain ⟨hj, rfl⟩ := hvs j u hu
    obtain ⟨u, hu, _⟩ := hg j _ (List.getElem?_eq_getElem (by omega))
    rw [Addr.add_mid]
    simp [hu]

theorem rows_nil {sz : Nat} {es : List (List PV)} (h : PR fp w v (.sl sz es)) (hn : es = []) : ∃ A cap, v = .slice A 0 cap := by
  obtain ⟨A, cap, rfl, _⟩ := h.slInv
  subst hn
  exact ⟨A, cap, rfl⟩

theorem Rel.frz (h : Rel X G s a w) {g p m : Nat} (hs : ∀ x, G.site x ≠ some g) (ho : ∀ k j e, G.own k j ≠ some (g, e)) (hw : X.w0.heap.size ≤ g ∨ X.L g) : Rel X G s a (w.freeze ⟨g, p, none⟩ m) := by
  have hoth : ∀ b, b ≠ g → (w.freeze ⟨g, p, none⟩ m).heap[b]? = w.heap[b]? := fun b hb => by
    unfold World.freeze
    split
    · rfl
    · simp [Array.getElem?_modify, Ne.symm hb]
  have hcell : ∀ ad : Addr, (w.freeze ⟨g, p, none⟩ m).cell? ad = w.cell? ad := fun ad => by
    by_cases hb : ad.block = g
    · unfold World.freeze
      split
      · rfl
      · simp only [World.cell?, Array.getElem?_modify, hb, if_true]
        cases w.heap[g]? with
        | none => rfl
        | some ob => cases ob <;> rfl
    · exact World.cell?_of_block (hoth _ hb)
  have hsize : (w.freeze ⟨g, p, none⟩ m).heap.size = w.heap.size := by
    unfold World.freeze
    split <;> simp
  have hm : ∀ b o v, Abs.fp X G b o → w.cell? ⟨b, o, none⟩ = some v → Abs.fp X G b o ∧ (w.freeze ⟨g, p, none⟩ m).cell? ⟨b, o, none⟩ = some v := fun b o v hf hc => ⟨hf, (hcell _).trans hc⟩
  refine ⟨fun t => (h.tmp t).mono hm (fun _ _ h => h) fun j g' e he => hoth g' (fun hg => ho _ _ _ (hg ▸ he)), fun x => (h.mem x).mono hm (fun _ _ h => h) (fun b hb => ⟨hb, hoth b fun hg => hs x (hg ▸ hb)⟩) fun j g' e he => hoth g' (fun hg => ho _ _ _ (hg ▸ he)), h.ownI, h.ownS, h.siteI, fun x b hb => by rw [hsize]; exact h.siteF x b hb, fun k j b e hb => by rw [hsize]; exact h.ownF k j b e hb, h.okS, h.okB, ?_, h.df⟩
  refine ⟨?_, ?_, ?_, by rw [hsize]; exact h.fr.size, fun b hb hl => ?_, fun b o ho' => (hcell _).trans (h.fr.cell b o ho')⟩
  · have : (w.freeze ⟨g, p, none⟩ m).os = w.os := by unfold World.freeze; split <;> rfl
    exact this.trans h.fr.os
  · have : (w.freeze ⟨g, p, none⟩ m).tape = w.tape := by unfold World.freeze; split <;> rfl
    exact this.trans h.fr.tape
  · have : (w.freeze ⟨g, p, none⟩ m).output = w.output := by unfold World.freeze; split <;> rfl
    exact this.trans h.fr.output
  · have hne : b ≠ g := by
      rintro rfl
      rcases hw with q | q
      · omega
      · exact hl q
    exact (hoth b hne).trans (h.fr.block b hb hl)
theorem run_convert_self (w : World) (t e : TypeId) (ht : P.underlying t = some (.slice e)) (he : P.underlying e = some (.int .u8)) (g n c : Nat) (cs : Array Value) (fz : Nat × Nat) (hg : w.heap[g]? = some (.cells cs e fz)) :
    (convert t t (.slice (some ⟨g, 0, none⟩) n c)).run P w = .ok (.slice (some ⟨g, 0, none⟩) n c) (w.freeze ⟨g, cs.size, none⟩ 1) := by
  have hsh : w.shape? g = some (e, cs.size) := by simp [World.shape?, hg]
  simp [convert, run_underlying ht, run_underlying he, markStringish, hsh, Result.andThen]
theorem i_fzb {d n : Nat} (hR : Rel X G s a w) (hN : a.tmps.size = N) (hok : okI P N (.fzb d n) o = true) (he : eff s (.fzb d n) = some (c, U)) (hc : c) : Nxt P X G o a w (s.ups U) mk := by
  simp only [okI, Bool.and_eq_true, bne_iff_ne] at hok
  obtain ⟨⟨h1, hnd⟩, h2⟩ := hok
  obtain ⟨hd, hlt⟩ := okDst_spec h1
  split at h2
  · rename_i t t' m hop
    simp only [Bool.and_eq_true, beq_iff_eq] at h2
    obtain ⟨⟨rfl, rfl⟩, hu⟩ := h2
    split at hu
    · rename_i e hue
      have hel : P.underlying e = some (.int .u8) := by
        unfold uInt at hu
        split at hu
        · rename_i k' hk'; simp at hu; subst hu; exact hk'
        · cases hu
      simp only [eff] at he
      split at he
      · rename_i e' sz es hsm
        cases he
        have htn := hR.tmp m
        have hdem := htn.dem fun j g e he o ho => hR.ownfp he ho
        rw [hsm] at htn hdem
        obtain ⟨⟨xs, q1, q2, q3, q4, q5⟩, q6⟩ := htn
        rcases q1.2 with ⟨_, hn⟩ | ⟨g, cap, cur, hv, hbg, hg, hnc, hcm, hcs, htake⟩
        · omega
        · have hown : ∃ e0, G.own (.t m) 0 = some (g, e0) := by
            rcases q5 with ⟨q, _⟩ | ⟨g', c', l', q, ho⟩
            · rw [hv] at q; cases q
            · rw [hv] at q; cases q; exact ⟨_, ho⟩
          obtain ⟨e0, hown⟩ := hown
          by_cases hmlt : m < a.tmps.size
          · have r1 := hR.put (d := m) hmlt (v := a.tmps.getD m Go.undef) hdem
            have ea : a.put (some m) (a.tmps.getD m Go.undef) = a := by
              unfold Act.put
              simp only
              have : a.tmps.setIfInBounds m (a.tmps.getD m Go.undef) = a.tmps := by
                apply Array.ext
                · simp
                · intro i h1 h2
                  rw [Array.getElem_setIfInBounds]
                  split
                  · rename_i hh; subst hh; simp [Array.getD, hmlt]
                  · rfl
              rw [this]
            rw [ea] at r1
            have r2 := r1.put (d := d) (by rw [hN]; exact hlt) (v := a.tmps.getD m Go.undef) (av := .pv (.sl sz es)) (by
              exact VR2.mono (fun b o v hf hcell => ⟨⟨hf.1, hf.2.1, fun k j e hk => hf.2.2 k j e (by
                simp only [clr] at hk
                split at hk
                · cases hk
                · exact hk)⟩, hcell⟩) (fun _ _ h => h) (fun _ _ _ he => by cases he) hdem)
            have r3 := r2.frz (g := g) (p := cur.size) (m := 1) (fun x hx => hR.ownS _ _ _ _ x hown hx) (fun k j e hk => by
              simp only [clr] at hk
              split at hk
              · cases hk
              · split at hk
                · cases hk
                · rename_i hk1 hk2
                  exact hk2 (hR.ownI _ _ _ _ _ _ _ hk hown).1) (hR.ownF _ _ _ _ hown).2
            refine Nxt.value (G' := { G with own := clr (clr G.own (.t m)) (.t d) }) (v := a.tmps.getD m Go.undef) (w' := w.freeze ⟨g, cur.size, none⟩ 1) ?_ (by rw [hd]; exact r3) fun x _ => rfl
            have hev : a.eval (.tmp m) = a.tmps.getD m Go.undef := rfl
            have hcv : e' = e ∨ True := Or.inr trivial
            have hshape : w.shape? g = some (e', cur.size) := by simp [World.shape?, hg]
            have hrun : (convert t t (.slice (some ⟨g, 0, none⟩) es.length cap)).run P w = .ok (.slice (some ⟨g, 0, none⟩) es.length cap) (w.freeze ⟨g, cur.size, none⟩ 1) := by
              simp [convert, run_underlying hue, run_underlying hel, markStringish, hshape, Result.andThen]
            simp only [execOp, hop, hev, hv, Sem.run_bind, hrun, Result.andThen_ok]
            rfl
          · rw [show a.tmps.getD m Go.undef = Go.undef by simp [Array.getD, hmlt]] at hv
            cases hv
      · cases he
    · cases hu
  · cases h2
theorem rows_src {st : Option Nat} {x : Opd} {y : Operand} {szx : Nat} {rows : List (List PV)} {c' : Prop} (hR : Rel X G s a w) (hx : okX x y = true) (hrows : rowsA s st (ev s x) = some (c', szx, rows)) (hc' : c') :
    ∃ A cap news, a.eval y = .slice A rows.length cap ∧ news.length = rows.length * szx ∧ PRs (Abs.fp X G) w news rows.flatten ∧ (0 < rows.length → ∃ ad, A = some ad ∧ ∀ (j : Nat) u, news[j]? = some u → w.cell? (ad.add j) = some u) ∧ (∀ r ∈ rows, r.length = szx) ∧ ∀ u ∈ news, u.oneCell' = true := by
  have fromSl : PR (Abs.fp X G) w (a.eval y) (.sl szx rows) → ∃ A cap news, a.eval y = .slice A rows.length cap ∧ news.length = rows.length * szx ∧ PRs (Abs.fp X G) w news rows.flatten ∧ (0 < rows.length → ∃ ad, A = some ad ∧ ∀ (j : Nat) u, news[j]? = some u → w.cell? (ad.add j) = some u) ∧ (∀ r ∈ rows, r.length = szx) ∧ ∀ u ∈ news, u.oneCell' = true := fun hp => by
    by_cases hne : rows = []
    · obtain ⟨A, cap, h⟩ := rows_nil hp hne
      subst hne
      exact ⟨A, cap, [], h, by simp, PRs.nil _ _, fun h => by simp at h, by simp, by simp⟩
    · obtain ⟨A, cap, news, g1, g2, g3, g4, g5⟩ := hp.rows hne
      exact ⟨A, cap, news, g1, g2, g3, fun _ => g4, g5, g3.one⟩
  have hv : V2 (Abs.fp X G) G.site w (a.eval y) (ev s x).dem2 := hR.opd _ _ hx
  generalize ev s x = q at hrows hv
  cases q <;> simp only [rowsA, reduceCtorEq] at hrows
  case pv p =>
    cases p <;> simp only [Option.some.injEq, Prod.mk.injEq, reduceCtorEq] at hrows
    obtain ⟨_, rfl, rfl⟩ := hrows
    exact fromSl hv.pv
  case os e2 sz2 es2 =>
    simp only [Option.some.injEq, Prod.mk.injEq] at hrows
    obtain ⟨_, rfl, rfl⟩ := hrows
    exact fromSl hv.pv
  case sr yy oo n2 sz2 =>
    split at hrows
    · split at hrows
      · rename_i hs2 _ l hl
        obtain ⟨hs1, _⟩ := hs2
        simp only [Option.some.injEq, Prod.mk.injEq] at hrows
        obtain ⟨rfl, rfl, rfl⟩ := hrows
        obtain ⟨b, cap, hb, hav, _, _⟩ := hv.sr
        obtain ⟨cs, rest, et, hblk, hz⟩ := hR.block hb (by rw [hl]; trivial)
        rw [hl] at hz
        obtain ⟨⟨cs', e1, h1⟩, _⟩ := hz
        cases e1
        have hl2 : cs.size = l.length := by simpa using h1.1
        have hfl : (((l.drop oo).take n2).map fun p => [p]).flatten = (l.drop oo).take n2 := by
          generalize (l.drop oo).take n2 = q
          induction q with
          | nil => rfl
          | cons p q ih => simp only [List.map_cons, List.flatten_cons, ih]; rfl
        have hn2 : (((l.drop oo).take n2).map fun p => [p]).length = n2 := by simp; omega
        refine ⟨some ⟨b, oo, none⟩, cap, (cs.toList.drop oo).take n2, by rw [hn2]; exact hav, by rw [hn2]; simp; omega, by rw [hfl]; exact (h1.drop oo).take n2, fun _ => ⟨_, rfl, fun j u hu => ?_⟩, fun r hr => ?_, ((h1.drop oo).take n2).one⟩
        · rw [Addr.add_mid]; refine cell_of_pre hblk ?_
          simp only [List.getElem?_take, List.getElem?_drop, Array.getElem?_toList] at hu
          split at hu
          · exact hu
          · cases hu
        · obtain ⟨p, _, rfl⟩ := List.mem_map.1 hr; rfl
      · cases hrows
    · cases hrows
theorem flat_one {rows : List (List PV)} (h : ∀ r ∈ rows, r.length = 1) (n : Nat) : (rows.take n).flatten = rows.flatten.take n := by
  induction rows generalizing n with
  | nil => simp
  | cons r rows ih =>
    cases n with
    | zero => simp
    | succ n =>
      obtain ⟨p, rfl⟩ := List.length_eq_one_iff.1 (h r (by simp))
      simp only [List.take_succ_cons, List.flatten_cons, List.singleton_append]
      rw [ih (fun r hr => h r (by simp [hr]))]
theorem i_copy {d yv : Nat} {st : Option Nat} {x y : Opd} (hR : Rel X G s a w) (hN : a.tmps.size = N) (hok : okI P N (.copy d yv st x y) o = true) (he : eff s (.copy d yv st x y) = some (c, U)) (hc : c) : Nxt P X G o a w (s.ups U) mk := by
  simp only [okI, Bool.and_eq_true] at hok
  obtain ⟨h1, h2⟩ := hok
  obtain ⟨hd, hlt⟩ := okDst_spec h1
  split at h2
  · rename_i cl hop
    split at h2
    · rename_i hcal
      split at h2
      · rename_i ux uy t t' hargs hat
        simp only [Bool.and_eq_true] at h2
        obtain ⟨⟨hx, hy⟩, hu⟩ := h2
        split at hu
        · rename_i el hut
          have hA : cl.args = #[ux, uy] := by cases hh : cl.args with | mk l => simp only [hh] at hargs; rw [hargs]
          have hT : cl.argTypes = #[t, t'] := by cases hh : cl.argTypes with | mk l => simp only [hh] at hat; rw [hat]
          have hsz : (P.info? el).map (·.size) = some 1 := by simpa [szOf] using hu
          have hv : V2 (Abs.fp X G) G.site w (a.eval ux) (ev s x).dem2 := hR.opd _ _ hx
          simp only [eff] at he
          split at he
          · rename_i v' oo n sz hev
            rw [hev] at hv
            split at he
            · rename_i hvv
              subst hvv
              split at he
              · rename_i l hl
                split at he
                · rename_i c' szx rows hrows
                  cases he
                  obtain ⟨hc', rfl, rfl, hfit⟩ := hc
                  obtain ⟨A, cap, news, g1, g2, g3, g4, g5, g6⟩ := rows_src hR hy hrows hc'
                  obtain ⟨b, cap2, hb, hav, _, _⟩ := hv.sr
                  obtain ⟨cs, rest, et, hblk, hz⟩ := hR.block hb (by rw [hl]; trivial)
                  rw [hl] at hz
                  obtain ⟨⟨cs', e1, p1⟩, hnone⟩ := hz
                  cases e1
                  have hcl : cs.size = l.length := by simpa using p1.1
                  simp only [Nat.mul_one] at g2
                  have hflat : (rows.take n).flatten = rows.flatten.take n := flat_one g5 n
                  have hnl : (news.take n).length = min rows.length n := by rw [List.length_take, g2, Nat.min_comm]
                  have key : ∃ w', (Builtin.copy_ #[t, t'] o.type #[a.eval ux, a.eval uy]).run P w = .ok (goInt ((min rows.length n : Nat) : Int)) w' ∧ ∃ G', Rel X G' (s.up (.m v') (.pagg (l.take oo ++ (rows.take n).flatten ++ l.drop (oo + min rows.length n)))) a w' ∧ ∀ z, G'.site z = G.site z := by
                    by_cases h0 : min rows.length n = 0
                    · refine ⟨w, by rw [hav, g1, run_copy_none (P := P) w t t' o.type el _ _ _ _ _ _ hut hsz h0, h0]; rfl, ?_⟩
                      have e2 : l.take oo ++ (rows.take n).flatten ++ l.drop (oo + min rows.length n) = l := by
                        have : (rows.take n).flatten = [] := by
                          have : (rows.take n) = [] := List.eq_nil_of_length_eq_zero (by rw [List.length_take]; omega)
                          rw [this]; rfl
                        rw [this, h0, List.append_nil, Nat.add_zero, List.take_append_drop]
                      rw [e2]
                      have e3 : s.up (.m v') (.pagg l) = s := by
                        funext k
                        unfold S.up
                        split
                        · rename_i hk; rw [hk, hl]
                        · rfl
                      rw [e3]
                      exact ⟨G, hR, fun _ => rfl⟩
                    · obtain ⟨ad, rfl, hcells⟩ := g4 (by omega)
                      have hrun := run_copy_row (P := P) w t t' o.type el b oo n cap2 ad rows.length cap (cs ++ rest) et (news.take n) hut hsz hblk hnl (fun j v hj => by
                        rw [List.getElem?_take] at hj
                        split at hj
                        · exact hcells j v hj
                        · cases hj) (by rw [Array.size_append, hnl, hcl]; omega) (fun u hu => g6 u (List.mem_of_mem_take hu))
                      rw [spl_pre (by rw [hcl]; omega) (by rw [hnl, hcl]; omega)] at hrun
                      refine ⟨_, by rw [hav, g1, hrun, hnl], ?_⟩
                      refine ⟨_, hR.storeSite hb hblk (fun _ => none) (fun _ _ h => by cases h) (r := .pagg (l.take oo ++ (rows.take n).flatten ++ l.drop (oo + min rows.length n))) ⟨⟨_, rfl, ?_⟩, fun _ => rfl⟩ trivial, fun _ => rfl⟩
                      rw [hflat]
                      exact ((p1.take oo).append (g3.take n)).append (p1.drop _)
                  obtain ⟨w', hrun, G', hR', hs⟩ := key
                  refine Nxt.value (G' := { G' with own := clr G'.own (.t d) }) (v := goInt ((min rows.length n : Nat) : Int)) (w' := w') ?_ (by rw [hd]; exact hR'.put (by rw [hN]; exact hlt) (V2.mkpv (.int _ _))) fun z _ => hs z
                  simp only [execOp, hop, resolve, hcal, hA, hT, Sem.run_bind, Sem.run_pure, Result.andThen_ok, invoke, builtin, List.map_toArray, List.map_cons, List.map_nil, hrun]
                · cases he
              · cases he
            · cases he
          · cases he
        · cases hu
      · cases h2
    · cases h2
  · cases h2

theorem i_app {d e sz n : Nat} {st : Option Nat} {x : Opd} (hR : Rel X G s a w) (hN : a.tmps.size = N) (hok : okI P N (.app d e sz n st x) o = true) (he : eff s (.app d e sz n st x) = some (c, U)) (hc : c) : Nxt P X G o a w (s.ups U) mk := by
  simp only [okI, Bool.and_eq_true, bne_iff_ne] at hok
  obtain ⟨⟨h1, hnd⟩, h2⟩ := hok
  obtain ⟨hd, hlt⟩ := okDst_spec h1
  split at h2
  · rename_i cl hop
    split at h2
    · rename_i hcal
      split at h2
      · rename_i m y t t' hargs hat
        simp only [Bool.and_eq_true, beq_iff_eq, decide_eq_true_eq] at h2
        obtain ⟨⟨⟨⟨⟨⟨⟨rfl, hx⟩, rfl⟩, hu⟩, hsz⟩, hpos⟩, hby⟩, hzz⟩ := h2
        have hu' : P.underlying t = some (.slice e) := by
          unfold uSlice at hu
          split at hu
          · rename_i e' he'; simp at hu; subst hu; exact he'
          · cases hu
        obtain ⟨ie, hie, hsn⟩ := Option.map_eq_some_iff.1 (by simpa [szOf] using hsz)
        split at hby
        · rename_i byy hbyy
          rw [hie] at hbyy
          simp only [Option.map_some, Option.some.injEq] at hbyy
          simp only [decide_eq_true_eq] at hby
          split at hzz
          · rename_i zv hzv
            simp only [beq_iff_eq] at hzz
            unfold zeroOf at hzv
            rw [hie] at hzv
            simp only [Option.bind_some] at hzv
            have hA : cl.args = #[.tmp m, y] := by cases hh : cl.args with | mk l => simp only [hh] at hargs; rw [hargs]
            have hT : cl.argTypes = #[t, t] := by cases hh : cl.argTypes with | mk l => simp only [hh] at hat; rw [hat]
            have hev : a.eval (.tmp m) = a.tmps.getD m Go.undef := rfl
            simp only [eff] at he
            split at he
            · rename_i e' sz' es hsm
              split at he
              · rename_i c' szx rows hrows
                cases he
                obtain ⟨⟨rfl, rfl, rfl⟩, hc', hlen⟩ := hc
                have htn := hR.tmp m
                rw [hsm] at htn
                obtain ⟨⟨xs, q1, q2, q3, q4, q5⟩, q6⟩ := htn
                -- what is appended
                have src : ∃ A cap news, a.eval y = .slice A rows.length cap ∧ news.length = rows.length * szx ∧ PRs (Abs.fp X G) w news rows.flatten ∧ (0 < rows.length → ∃ ad, A = some ad ∧ ∀ (j : Nat) u, news[j]? = some u → w.cell? (ad.add j) = some u) ∧ (∀ r ∈ rows, r.length = szx) ∧ ∀ u ∈ news, u.oneCell' = true := by
                  have fromSl : PR (Abs.fp X G) w (a.eval y) (.sl szx rows) → ∃ A cap news, a.eval y = .slice A rows.length cap ∧ news.length = rows.length * szx ∧ PRs (Abs.fp X G) w news rows.flatten ∧ (0 < rows.length → ∃ ad, A = some ad ∧ ∀ (j : Nat) u, news[j]? = some u → w.cell? (ad.add j) = some u) ∧ (∀ r ∈ rows, r.length = szx) ∧ ∀ u ∈ news, u.oneCell' = true := fun hp => by
                    by_cases hne : rows = []
                    · obtain ⟨A, cap, h⟩ := rows_nil hp hne
                      subst hne
                      exact ⟨A, cap, [], h, by simp, PRs.nil _ _, fun h => by simp at h, by simp, by simp⟩
                    · obtain ⟨A, cap, news, g1, g2, g3, g4, g5⟩ := hp.rows hne
                      exact ⟨A, cap, news, g1, g2, g3, fun _ => g4, g5, g3.one⟩
                  have hv : V2 (Abs.fp X G) G.site w (a.eval y) (ev s x).dem2 := hR.opd _ _ hx
                  generalize ev s x = q at hrows hv
                  cases q <;> simp only [rowsA, reduceCtorEq] at hrows
                  case pv p =>
                    cases p <;> simp only [Option.some.injEq, Prod.mk.injEq, reduceCtorEq] at hrows
                    obtain ⟨_, rfl, rfl⟩ := hrows
                    exact fromSl hv.pv
                  case os e2 sz2 es2 =>
                    simp only [Option.some.injEq, Prod.mk.injEq] at hrows
                    obtain ⟨_, rfl, rfl⟩ := hrows
                    exact fromSl hv.pv
                  case sr yy oo n2 sz2 =>
                    split at hrows
                    · split at hrows
                      · rename_i hs2 _ l hl
                        obtain ⟨hs1, _⟩ := hs2
                        simp only [Option.some.injEq, Prod.mk.injEq] at hrows
                        obtain ⟨rfl, rfl, rfl⟩ := hrows
                        obtain ⟨b, cap, hb, hav, _, _⟩ := hv.sr
                        obtain ⟨cs, rest, et, hblk, hz⟩ := hR.block hb (by rw [hl]; trivial)
                        rw [hl] at hz
                        obtain ⟨⟨cs', e1, h1⟩, _⟩ := hz
                        cases e1
                        have hl2 : cs.size = l.length := by simpa using h1.1
                        have hfl : (((l.drop oo).take n2).map fun p => [p]).flatten = (l.drop oo).take n2 := by
                          generalize (l.drop oo).take n2 = q
                          induction q with
                          | nil => rfl
                          | cons p q ih => simp only [List.map_cons, List.flatten_cons, ih]; rfl
                        have hn2 : (((l.drop oo).take n2).map fun p => [p]).length = n2 := by simp; omega
                        refine ⟨some ⟨b, oo, none⟩, cap, (cs.toList.drop oo).take n2, by rw [hn2]; exact hav, by rw [hn2]; simp; omega, by rw [hfl]; exact (h1.drop oo).take n2, fun _ => ⟨_, rfl, fun j u hu => ?_⟩, fun r hr => ?_, ((h1.drop oo).take n2).one⟩
                        · rw [Addr.add_mid]; refine cell_of_pre hblk ?_
                          simp only [List.getElem?_take, List.getElem?_drop, Array.getElem?_toList] at hu
                          split at hu
                          · exact hu
                          · cases hu
                        · obtain ⟨p, _, rfl⟩ := List.mem_map.1 hr; rfl
                      · cases hrows
                    · cases hrows
                obtain ⟨A, cap, news, g1, g2, g3, g4, g5, g6⟩ := src
                obtain ⟨v', w', hrun, hown', hcase⟩ := run_app (P := P) (w := w) (ty := o.type) hu' hie hzv hsn hbyy hzz hpos q1 (A := A) (m := rows.length) (c := cap) g2 g4 g6 (by unfold maxLen; omega) (by
                  have := Nat.mul_le_mul hlen hby
                  omega)
                obtain ⟨G', hR', hs⟩ := hR.app (d := d) (by rw [hN]; exact hlt) hnd hsm q2 g3 g5 q1 hown' hcase
                rw [hsm] at hR'
                refine Nxt.value (v := v') (w' := w') ?_ (by rw [hd]; exact hR') fun x _ => hs x
                simp only [execOp, hop, resolve, hcal, hA, hT, Sem.run_bind, Sem.run_pure, Result.andThen_ok, invoke, builtin, List.map_toArray, List.map_cons, List.map_nil, hev, g1, hrun]
              · cases he
            · cases he
          · cases hzz
        · cases hby
      · cases h2
    · cases h2
  · cases h2
end
end Go.Abs
end

section
/- The abstract machine's operations on maps answer as the model's do. No condition. -/
namespace Go.Abs
open Go.RowKit

section
variable {P : Program} {X : Ctx} {G G' : Gh} {s s' : S} {a : Act} {w w' : World} {o : Oper} {c : Prop} {U : List (Key × AV)} {v : Value} {N : Nat} {mk : List Nat}
variable {fp : Nat → Nat → Prop} {site : Nat → Option Nat}

theorem PR.ck {p : PV} {c : CK} (h : PR fp w v p) (hc : ckOne c p = true) : v = pvV p := by
  cases h <;> cases c <;> first | rfl | (simp [ckOne] at hc)
theorem ck_PR {p : PV} {c : CK} (hc : ckOne c p = true) : PR fp w (pvV p) p := by
  cases p <;> cases c <;> first | (simp [ckOne] at hc; done) | exact .bool _ | exact .int _ _ | exact .str _
theorem PRs.ck : ∀ {ks : List CK} {vs : List Value} {l : List PV}, PRs fp w vs l → ckAll ks l = true → vs = l.map pvV
  | [], [], [], _, _ => rfl
  | [], _, _ :: _, _, hc => by simp [ckAll] at hc
  | [], _ :: _, [], h, _ => by have := h.1; simp at this
  | _ :: _, _, [], _, hc => by simp [ckAll] at hc
  | _ :: _, [], _ :: _, h, _ => by have := h.1; simp at this
  | c :: ks, v :: vs, p :: l, h, hc => by
    simp only [ckAll, Bool.and_eq_true] at hc
    have h0 := h.2 0 v p rfl rfl
    have ht : PRs fp w vs l := ⟨by simpa using h.1, fun j u q h1 h2 => h.2 (j + 1) u q (by simpa using h1) (by simpa using h2)⟩
    rw [List.map_cons, h0.ck hc.1, ht.ck hc.2]
theorem ck_PRs : ∀ {ks : List CK} {l : List PV}, ckAll ks l = true → PRs fp w (l.map pvV) l
  | [], [], _ => PRs.nil _ _
  | [], _ :: _, hc => by simp [ckAll] at hc
  | _ :: _, [], hc => by simp [ckAll] at hc
  | c :: ks, p :: l, hc => by
    simp only [ckAll, Bool.and_eq_true] at hc
    have ht : PRs fp w (l.map pvV) l := ck_PRs hc.2
    refine ⟨by simp, fun j u q h1 h2 => ?_⟩
    cases j with
    | zero => simp at h1 h2; subst h1 h2; exact ck_PR hc.1
    | succ j => exact ht.2 j u q (by simpa using h1) (by simpa using h2)

theorem key_val {av : AV} {ag : Bool} {ks : List CK} {kl : List PV} (h : keyA av = some (ag, kl)) (hv : V2 fp site w v av) (hc : ckAll ks kl = true) : v = keyV ag kl := by
  cases av <;> simp only [keyA, Option.some.injEq, Prod.mk.injEq, reduceCtorEq] at h
  · obtain ⟨rfl, rfl⟩ := h
    obtain ⟨⟨h1, _⟩, _⟩ := hv
    cases ks with
    | nil => simp [ckAll] at hc
    | cons c ks =>
      simp only [ckAll, Bool.and_eq_true] at hc
      simp only [keyV, Bool.false_eq_true, if_false]
      exact h1.ck hc.1
  · obtain ⟨rfl, rfl⟩ := h
    obtain ⟨⟨cs, rfl, h2⟩, _⟩ := hv
    have := h2.ck hc
    simp only [keyV, if_true]
    rw [← this]

/-- How a key type and its cells go together. -/
def keyT (P : Program) (t : TypeId) (ag : Bool) (ks : List CK) : Prop := eqK P 8 t = some ks ∧ isAggT P t = some ag

theorem eqK_one {d : Nat} {t : TypeId} {ks : List CK} (h : eqK P d t = some ks) (ha : isAggT P t = some false) : ks.length = 1 := by
  cases d with
  | zero => simp [eqK] at h
  | succ d =>
    simp only [eqK] at h
    split at h
    · cases h; rfl
    · cases h; rfl
    · cases h; rfl
    · rename_i hu; simp [isAggT, hu] at ha
    · rename_i hu; simp [isAggT, hu] at ha
    · cases h

theorem key_V2t {t : TypeId} {ag : Bool} {ks : List CK} {kl : List PV} (ht : keyT P t ag ks) (hc : ckAll ks kl = true) : V2t P fp site w t kl (keyV ag kl) := by
  unfold V2t
  rw [ht.2]
  cases ag
  · have h1 := eqK_one ht.1 ht.2
    have h2 := ckAll_len hc
    rw [h1] at h2
    obtain ⟨p, rfl⟩ := List.length_eq_one_iff.1 h2
    obtain ⟨c0, rfl⟩ := List.length_eq_one_iff.1 h1
    simp only [ckAll, Bool.and_eq_true] at hc
    exact ⟨p, rfl, V2.mkpv (ck_PR hc.1)⟩
  · exact ⟨⟨(kl.map pvV).toArray, rfl, by simpa using ck_PRs hc⟩, fun _ => rfl⟩

theorem eqPVs_eq : ∀ {ks : List CK} {l m : List PV}, ckAll ks l = true → ckAll ks m = true → eqPVs l m = true → l = m
  | [], [], [], _, _, _ => rfl
  | [], _ :: _, _, h, _, _ => by simp [ckAll] at h
  | [], [], _ :: _, _, h, _ => by simp [ckAll] at h
  | _ :: _, [], _, h, _, _ => by simp [ckAll] at h
  | _ :: _, _ :: _, [], _, h, _ => by simp [ckAll] at h
  | c :: ks, p :: l, q :: m, h1, h2, h3 => by
    simp only [ckAll, eqPVs, Bool.and_eq_true] at h1 h2 h3
    have := eqPVs_eq h1.2 h2.2 h3.2
    subst this
    have e : p = q := by
      cases p <;> cases c <;> first | (simp [ckOne] at h1; done) | (cases q <;> first | (simp [ckOne] at h2; done) | skip)
      all_goals (simp [ckOne, eqPV, MapKept.bytes_beq] at h1 h2 h3)
      all_goals simp_all
    rw [e]

/-- Keys of such a type may stand in a map. -/
theorem eqK_check (em : Bool) : ∀ (d : Nat) (t : TypeId) (ks : List CK), eqK P d t = some ks → ∀ D, d ≤ D → ∀ l v, ckAll ks l = true → V2t P fp site w t l v → (Instr.checkKey em D t v).run P w = .ok () w
  | 0, _, _, h, _, _ => by simp [eqK] at h
  | d + 1, t, ks, h, 0, hD => by omega
  | d + 1, t, ks, h, D + 1, hD => by
    intro l v hl hv
    have ih := fun t ks h => eqK_check em d t ks h D (by omega)
    simp only [eqK] at h
    split at h
    · rename_i hu
      cases h
      have hg : isAggT P t = some false := by simp [isAggT, hu]
      unfold V2t at hv
      rw [hg] at hv
      obtain ⟨p, rfl, hv⟩ := hv
      cases p <;> simp [ckAll, ckOne] at hl
      rw [hv.bool]
      simp [Instr.checkKey, run_underlying hu]
    · rename_i k hu
      cases h
      have hg : isAggT P t = some false := by simp [isAggT, hu]
      unfold V2t at hv
      rw [hg] at hv
      obtain ⟨p, rfl, hv⟩ := hv
      cases p <;> simp [ckAll, ckOne] at hl
      rw [hv.int]
      simp [Instr.checkKey, run_underlying hu]
    · rename_i hu
      cases h
      have hg : isAggT P t = some false := by simp [isAggT, hu]
      unfold V2t at hv
      rw [hg] at hv
      obtain ⟨p, rfl, hv⟩ := hv
      cases p <;> simp [ckAll, ckOne] at hl
      rw [V2.str_eq hv]
      simp [Instr.checkKey, run_underlying hu]
    · rename_i fs hu
      split at h
      · have hg : isAggT P t = some true := by simp [isAggT, hu]
        unfold V2t at hv
        rw [hg] at hv
        obtain ⟨⟨cs, rfl, p1⟩, _⟩ := id hv
        rw [Instr.checkKey]
        simp only [Sem.run_bind, run_underlying hu, Result.andThen_ok]
        rw [← Array.forIn_toList]
        have key : ∀ (fl : List Field) (off : Nat) (ks' : List CK), eqKF P (eqK P d) fl off = some ks' → off ≤ l.length → ckAll ks' (l.drop off) = true →
            (forIn fl PUnit.unit fun f (_ : PUnit) => if f.name ≠ "_" then do
              let y ← part f.type cs f.offset
              Instr.checkKey em D f.type y
              pure (ForInStep.yield PUnit.unit) else pure (ForInStep.yield PUnit.unit) : Sem PUnit).run P w = .ok PUnit.unit w := by
          intro fl
          induction fl with
          | nil => intro off ks' _ _ _; simp
          | cons f fl ihf =>
            intro off ks' hk ho hcc
            simp only [eqKF] at hk
            split at hk
            · rename_i hf
              obtain ⟨hf1, hf2⟩ := hf
              split at hk
              · rename_i ks1 hr
                split at hk
                · rename_i pn hpn
                  split at hk
                  · rename_i ks2 hk2
                    cases hk
                    have l1 := ckAll_len hcc
                    rw [List.length_append, List.length_drop] at l1
                    obtain ⟨a1, a2⟩ := ckAll_app hcc
                    rw [List.drop_drop] at a2
                    obtain ⟨cs', u, e, hrun1, hu1⟩ := V2t_part (P := P) hpn hv (show off + ks1.length ≤ l.length by omega)
                    cases e
                    have q1 := ih _ _ hr _ _ a1 hu1
                    have q2 := ihf _ _ hk2 (by omega) a2
                    subst hf2
                    simp only [List.forIn_cons, Sem.run_bind, hf1, ne_eq, not_false_eq_true, if_true, Result.andThen_ok, hrun1, q1, Sem.run_pure]
                    exact q2
                  · cases hk
                · cases hk
              · cases hk
            · cases hk
        have := key fs.toList 0 ks h (Nat.zero_le _) hl
        first
          | exact this
          | (rw [this]; rfl)
      · cases h
    · rename_i n e hu
      split at h
      · rename_i ks1 hr
        split at h
        · rename_i pn hpn
          split at h
          · rename_i hce
            cases h
            have hg : isAggT P t = some true := by simp [isAggT, hu]
            unfold V2t at hv
            rw [hg] at hv
            obtain ⟨⟨cs, rfl, p1⟩, _⟩ := id hv
            obtain ⟨ie, hie⟩ : ∃ i, P.info? e = some i := by
              unfold partN at hpn
              split at hpn
              · rename_i ha
                unfold isAggT at ha
                cases hd : P.underlying e with
                | none => simp [hd] at ha
                | some _ => exact info_of_underlying hd
              · rename_i ha
                unfold isAggT at ha
                cases hd : P.underlying e with
                | none => simp [hd] at ha
                | some _ => exact info_of_underlying hd
              · cases hpn
            rw [Instr.checkKey]
            simp only [Sem.run_bind, run_underlying hu, Result.andThen_ok]
            simp only [Std.Legacy.Range.forIn_eq_forIn_range', Std.Legacy.Range.size, Nat.sub_zero, Nat.add_one_sub_one, Nat.div_one]
            have key : ∀ (m i : Nat), i * ks1.length ≤ l.length → ckAll (List.replicate m ks1).flatten (l.drop (i * ks1.length)) = true →
                (forIn (List.range' i m) PUnit.unit fun j (_ : PUnit) => do
                  let sz ← sizeOf e
                  let y ← part e cs (j * sz)
                  Instr.checkKey em D e y
                  pure (ForInStep.yield PUnit.unit) : Sem PUnit).run P w = .ok PUnit.unit w := by
              intro m
              induction m with
              | zero => intro i _ _; simp
              | succ m ihm =>
                intro i ho hcc
                rw [List.replicate_succ, List.flatten_cons] at hcc
                have l1 := ckAll_len hcc
                rw [List.length_append, List.length_drop] at l1
                obtain ⟨a1, a2⟩ := ckAll_app hcc
                have hs : i * ks1.length + ks1.length = (i + 1) * ks1.length := (Nat.succ_mul _ _).symm
                rw [List.drop_drop, hs] at a2
                obtain ⟨cs', u, e', hrun1, hu1⟩ := V2t_part (P := P) hpn hv (show i * ks1.length + ks1.length ≤ l.length by omega)
                cases e'
                have q1 := ih _ _ hr _ _ a1 hu1
                have q2 := ihm (i + 1) (by omega) a2
                rw [List.range'_succ]
                simp only [List.forIn_cons, Sem.run_bind, run_sizeOf w hie, hce, Result.andThen_ok, hrun1, q1, Sem.run_pure]
                exact q2
            have := key n 0 (by omega) (by simpa using hl)
            first
              | exact this
              | (rw [this]; rfl)
          · cases h
        · cases h
      · cases h
    · cases h

theorem sameBits_pv {c : CK} {p : PV} (h : ckOne c p = true) (n : Nat) : Instr.sameBits n (pvV p) (pvV p) = true := by
  cases p <;> cases c <;> first | (simp [ckOne] at h; done) | (cases n <;> simp [pvV, Instr.sameBits, MapKept.bytes_beq])
theorem ckAll_mem : ∀ {ks : List CK} {l : List PV}, ckAll ks l = true → ∀ p ∈ l, ∃ c, ckOne c p = true
  | [], [], _, p, hp => by simp at hp
  | [], _ :: _, h, _, _ => by simp [ckAll] at h
  | _ :: _, [], h, _, _ => by simp [ckAll] at h
  | c :: ks, q :: l, h, p, hp => by
    simp only [ckAll, Bool.and_eq_true] at h
    rcases List.mem_cons.1 hp with rfl | hp
    · exact ⟨c, h.1⟩
    · exact ckAll_mem h.2 p hp
theorem key_stays {ag : Bool} {ks : List CK} {kl : List PV} (h : ckAll ks kl = true) (h1 : ag = false → ks.length = 1) (w : World) : (Instr.keyThatStays (keyV ag kl) (keyV ag kl)).run P w = .ok (keyV ag kl) w := by
  have hs : Instr.sameBits 10000 (keyV ag kl) (keyV ag kl) = true := by
    cases ag
    · have h2 := ckAll_len h
      rw [h1 rfl] at h2
      obtain ⟨p, rfl⟩ := List.length_eq_one_iff.1 h2
      obtain ⟨c, hc⟩ := ckAll_mem h p (by simp)
      exact sameBits_pv hc _
    · show Instr.sameBits (9999 + 1) (.agg (kl.map pvV).toArray) (.agg (kl.map pvV).toArray) = true
      simp only [Instr.sameBits, beq_self_eq_true, Bool.true_and, List.all_eq_true]
      intro x hx
      obtain ⟨i, hi, e⟩ := List.getElem_of_mem hx
      rw [List.getElem_zip] at e
      rw [← e]
      simp only [List.getElem_map]
      have hil : i < kl.length := by simp at hi; exact hi
      obtain ⟨c, hc⟩ := ckAll_mem h kl[i] (List.getElem_mem hil)
      exact sameBits_pv hc 9999
  simp [Instr.keyThatStays, hs]

/-- What the model's search tells at once, where it tells it. -/
theorem sameNow_key {t : TypeId} {d : TypeDesc} {ag : Bool} {ks : List CK} {kl ml : List PV} (hd : P.underlying t = some d) (ht : keyT P t ag ks) (h1 : ckAll ks kl = true) (h2 : ckAll ks ml = true) :
    Instr.sameNow d (keyV ag kl) (keyV ag ml) = none ∨ Instr.sameNow d (keyV ag kl) (keyV ag ml) = some (eqPVs kl ml) := by
  obtain ⟨hk, ha⟩ := ht
  cases ag
  · have hl := eqK_one hk ha
    have l1 := ckAll_len h1
    have l2 := ckAll_len h2
    rw [hl] at l1 l2
    obtain ⟨p, rfl⟩ := List.length_eq_one_iff.1 l1
    obtain ⟨q, rfl⟩ := List.length_eq_one_iff.1 l2
    obtain ⟨c, rfl⟩ := List.length_eq_one_iff.1 hl
    simp only [ckAll, Bool.and_true] at h1 h2
    have e : eqPVs [p] [q] = eqPV p q := by simp [eqPVs]
    rw [e]
    simp only [keyV, Bool.false_eq_true, if_false]
    cases p <;> cases c <;> first | (simp [ckOne] at h1; done) | (cases q <;> first | (simp [ckOne] at h2; done) | skip)
    all_goals (cases d <;> simp_all [Instr.sameNow, pvV, eqPV, ckOne])
  · left
    cases d <;> simp [Instr.sameNow, keyV]

theorem find_spec {t : TypeId} {d : TypeDesc} {ag : Bool} {ks : List CK} {kl : List PV} (hd : P.underlying t = some d) (ht : keyT P t ag ks) (hkl : ckAll ks kl = true) (q : PV) : ∀ (el : List MapEntry) (es : List (List PV × PV)),
    el.length = es.length → (∀ (j : Nat) e kv, el[j]? = some e → es[j]? = some kv → e.key = keyV ag kv.1 ∧ ckAll ks kv.1 = true) →
    (mfind kl es = none ∧ mset kl q es = es ++ [(kl, q)] ∧ mdrop kl es = es ∧ ∀ i, (Instr.findAsking t (keyV ag kl) el i).run P w = .ok none w ∧ (Instr.findNow d (keyV ag kl) el i = none ∨ Instr.findNow d (keyV ag kl) el i = some none)) ∨
    ∃ j e kv, el[j]? = some e ∧ es[j]? = some kv ∧ kv.1 = kl ∧ mfind kl es = some kv.2 ∧ mset kl q es = es.set j (kl, q) ∧ mdrop kl es = es.eraseIdx j ∧
      ∀ i, (Instr.findAsking t (keyV ag kl) el i).run P w = .ok (some (i + j, e.val)) w ∧ (Instr.findNow d (keyV ag kl) el i = none ∨ Instr.findNow d (keyV ag kl) el i = some (some (i + j, e.val)))
  | [], [], _, _ => Or.inl ⟨rfl, rfl, rfl, fun i => ⟨by simp [Instr.findAsking], Or.inr rfl⟩⟩
  | [], _ :: _, h, _ => by simp at h
  | _ :: _, [], h, _ => by simp at h
  | e :: el, kv :: es, hlen, hall => by
    obtain ⟨k, u⟩ := kv
    obtain ⟨h1, h2⟩ := hall 0 e (k, u) rfl rfl
    simp only at h1 h2
    have heq : (Op.equal t (keyV ag kl) e.key).run P w = .ok (eqPVs kl k) w := by
      rw [h1]
      exact eqK_sound (fp := fun _ _ => True) (site := fun _ => none) 8 t ks ht.1 10000 (by decide) kl k _ _ hkl h2 (key_V2t ht hkl) (key_V2t ht h2)
    have hnow := sameNow_key hd ht hkl h2
    rw [← h1] at hnow
    cases hb : eqPVs kl k with
    | true =>
      right
      refine ⟨0, e, (k, u), rfl, rfl, (eqPVs_eq hkl h2 hb).symm, by simp [mfind, hb], by simp [mset, hb], by simp [mdrop, hb], fun i => ⟨by simp [Instr.findAsking, heq, hb], ?_⟩⟩
      rcases hnow with hn | hn
      · left; simp [Instr.findNow, hn]
      · right; simp [Instr.findNow, hn, hb]
    | false =>
      rcases find_spec hd ht hkl q el es (by simpa using hlen) (fun j e kv a b => hall (j + 1) e kv (by simpa using a) (by simpa using b)) with ⟨a1, a2, a3, a4⟩ | ⟨j, e', kv', a1, a2, a3, a4, a5, a6, a7⟩
      · left
        refine ⟨by simp [mfind, hb, a1], by simp [mset, hb, a2], by simp [mdrop, hb, a3], fun i => ⟨by simp [Instr.findAsking, heq, hb, (a4 (i + 1)).1], ?_⟩⟩
        rcases hnow with hn | hn
        · left; simp [Instr.findNow, hn]
        · rcases (a4 (i + 1)).2 with g | g
          · left; simp [Instr.findNow, hn, hb, g]
          · right; simp [Instr.findNow, hn, hb, g]
      · right
        refine ⟨j + 1, e', kv', by simpa using a1, by simpa using a2, a3, by simp [mfind, hb, a4], by simp [mset, hb, a5], by simp [mdrop, hb, a6], fun i => ⟨?_, ?_⟩⟩
        · have := (a7 (i + 1)).1
          simp only [Instr.findAsking, Sem.run_bind, heq, hb, Result.andThen_ok, Bool.false_eq_true, if_false, this]
          rw [show i + 1 + j = i + (j + 1) by omega]
        · rcases hnow with hn | hn
          · left; simp [Instr.findNow, hn]
          · rcases (a7 (i + 1)).2 with g | g
            · left; simp [Instr.findNow, hn, hb, g]
            · right; simp only [Instr.findNow, hn, hb, g]; rw [show i + 1 + j = i + (j + 1) by omega]

theorem find_run {t : TypeId} {d : TypeDesc} {k : Value} {el : List MapEntry} {r : Option (Nat × Value)} (hd : P.underlying t = some d) (h1 : (Instr.findAsking t k el 0).run P w = .ok r w) (h2 : Instr.findNow d k el 0 = none ∨ Instr.findNow d k el 0 = some r) :
    (Instr.findKey t k el).run P w = .ok r w := by
  unfold Instr.findKey
  simp only [Sem.run_bind, run_underlying hd, Result.andThen_ok]
  rcases h2 with g | g <;> rw [g] <;> simp [h1]

theorem key_check {t : TypeId} {ag : Bool} {ks : List CK} {kl : List PV} (ht : keyT P t ag ks) (hkl : ckAll ks kl = true) (em : Bool) : (Instr.checkKey em 10000 t (keyV ag kl)).run P w = .ok () w :=
  eqK_check (fp := fun _ _ => True) (site := fun _ => none) em 8 t ks ht.1 10000 (by decide) kl _ hkl (key_V2t ht hkl)

/-- A map's entries turn. -/
theorem Rel.setMap (h : Rel X G s a w) {y b : Nat} (hy : G.site y = some b) {ents ents' : Array MapEntry} {clk clk' : Nat} (hb : w.heap[b]? = some (.map ents clk)) {ag : Bool} {ks : List CK} {es' : List (List PV × PV)}
    (hm : MapR (Abs.fp X G) w ents' ag ks es') (hown : ∀ j, G.own (.m y) j = none) (hst : St ents' clk') : Rel X G (s.up (.m y) (.mc ag ks es')) a { w with heap := w.heap.setIfInBounds b (.map ents' clk') } := by
  obtain ⟨hblt, hbF⟩ := h.siteF y b hy
  have hh := MapKept.heap_set (o' := Obj.map ents' clk') hb
  have hoth := hh.2
  have hfp : ∀ b' o v, Abs.fp X G b' o → w.cell? ⟨b', o, none⟩ = some v → Abs.fp X G b' o ∧ ({ w with heap := w.heap.setIfInBounds b (.map ents' clk') } : World).cell? ⟨b', o, none⟩ = some v := fun b' o v hf hc => by
    have hne : b' ≠ b := by rintro rfl; exact hf.2.1 y hy
    exact ⟨hf, (World.cell?_of_block (a := ⟨b', o, none⟩) (hoth b' hne)).trans hc⟩
  have hsize : (w.heap.setIfInBounds b (.map ents' clk')).size = w.heap.size := by simp
  have hownh : ∀ k j g e, G.own k j = some (g, e) → (w.heap.setIfInBounds b (.map ents' clk'))[g]? = w.heap[g]? := fun k j g e he => hoth g (by rintro rfl; exact h.ownS _ _ _ _ y he hy)
  refine ⟨fun t => ?_, fun x => ?_, h.ownI, h.ownS, h.siteI, fun x b' hx => ?_, fun k j b e he => ?_, h.okS, h.okB, ?_, h.df⟩
  · rw [S.up_other _ _ (by simp)]
    exact (h.tmp t).mono hfp (fun _ _ h => h) (hownh (.t t))
  · by_cases hx : x = y
    · subst hx
      rw [S.up_same]
      exact ⟨b, ents', clk', hy, hh.1, hm.mono hfp, hown, hst⟩
    · rw [S.up_other _ _ (by simp [hx])]
      refine (h.mem x).mono hfp (fun _ _ h => h) (fun b' hb' => ⟨hb', hoth b' ?_⟩) (hownh (.m x))
      rintro rfl
      exact hx (h.siteI _ _ _ hb' hy)
  · obtain ⟨q1, q2⟩ := h.siteF x b' hx
    exact ⟨by simpa using q1, q2⟩
  · obtain ⟨q1, q2⟩ := h.ownF k j b e he
    exact ⟨by simpa using q1, q2⟩
  · refine ⟨h.fr.os, h.fr.tape, h.fr.output, by simpa using h.fr.size, fun b' hb' hl => ?_, fun b' o ho => ?_⟩
    · have hne : b' ≠ b := by
        rintro rfl
        rcases hbF with q | q
        · omega
        · exact hl q.1
      exact (hoth b' hne).trans (h.fr.block b' hb' hl)
    · have hne : b' ≠ b := by rintro rfl; exact (h.okS b' o ho).1 y hy
      exact (World.cell?_of_block (a := ⟨b', o, none⟩) (hoth b' hne)).trans (h.fr.cell b' o ho)

/-- A new map. -/
theorem Rel.newMap (h : Rel X G s a w) {d : Nat} (hd : d < a.tmps.size) (hfree : G.site d = none) (hmd : s (.m d) = .undef) (ag : Bool) (ks : List CK) :
    ∃ G', Rel X G' ((s.up (.m d) (.mc ag ks [])).up (.t d) (.mp d)) (a.put (some d) (.map (some w.heap.size))) (w.alloc (.map #[] 0)) ∧ ∀ x, x ≠ d → G'.site x = G.site x := by
  refine ⟨⟨fun x => if x = d then some w.heap.size else G.site x, clr G.own (.t d)⟩, ?_, fun x hx => by simp [hx]⟩
  refine h.newBlock _ (fun x b hb => ?_) (fun x b hb => ?_) (fun k j b e' hb => ?_) (fun x y h1 h2 => ?_) (fun k j k' j' e' e'' h1 h2 => ?_) (fun k j e' x h1 => ?_) (fun hfp t => ?_) (fun hfp x => ?_) ((put_defers _ _ _).trans h.df)
  · have : x ≠ d := by rintro rfl; rw [hfree] at hb; cases hb
    simp [this, hb]
  · simp only at hb
    split at hb
    · cases hb; exact Or.inr rfl
    · exact Or.inl hb
  · simp only [clr] at hb
    split at hb
    · cases hb
    · exact Or.inl hb
  · simp only at h1 h2
    have key : ∀ z, (if z = d then some w.heap.size else G.site z) = some w.heap.size → z = d := fun z hz => by
      by_cases hzd : z = d
      · exact hzd
      · rw [if_neg hzd] at hz
        have := (h.siteF z _ hz).1
        omega
    rw [key x h1, key y h2]
  · simp only [clr] at h1
    split at h1
    · cases h1
    · have := (h.ownF _ _ _ _ h1).1
      omega
  · simp only [clr] at h1
    split at h1
    · cases h1
    · have := (h.ownF _ _ _ _ h1).1
      omega
  · have hs : ∀ x b, G.site x = some b → (fun x => if x = d then some w.heap.size else G.site x) x = some b := fun x b hb => by
      have : x ≠ d := by rintro rfl; rw [hfree] at hb; cases hb
      simp [this, hb]
    by_cases ht : t = d
    · subst ht
      rw [getD_put_same hd, S.up_same]
      exact ⟨⟨⟨w.heap.size, by simp, rfl⟩, by simp [clr]⟩, fun _ _ => by simp [clr]⟩
    · rw [getD_put_other ht, S.up_other _ _ (by simp [ht]), S.up_other _ _ (by simp)]
      have e1 : clr G.own (.t d) (.t t) = G.own (.t t) := by funext j; simp [clr, ht]
      simp only [e1]
      exact (h.tmp t).mono hfp hs fun j g e' he => own_heap h _ he
  · have hs : ∀ x b, G.site x = some b → (fun x => if x = d then some w.heap.size else G.site x) x = some b := fun x b hb => by
      have : x ≠ d := by rintro rfl; rw [hfree] at hb; cases hb
      simp [this, hb]
    rw [S.up_other _ _ (by simp)]
    have e1 : clr G.own (.t d) (.m x) = G.own (.m x) := by funext j; simp [clr]
    simp only [e1]
    by_cases hx : x = d
    · subst hx
      rw [S.up_same]
      have hown : G.own (.m x) = fun _ => none := by
        have := h.mem x
        rw [hmd] at this
        funext j
        exact this j
      rw [hown]
      exact ⟨w.heap.size, #[], 0, by simp, heap_alloc_new w _, ⟨rfl, fun j e kv h1 _ => by simp at h1⟩, fun _ => rfl, St.empty⟩
    · rw [S.up_other _ _ (by simp [hx])]
      refine (h.mem x).mono hfp hs (fun b hb => ⟨by simp [hx, hb], Below.heap_alloc w _ b (h.siteF x b hb).1⟩) fun j g e' he => own_heap h _ he

theorem i_mkmap {d : Nat} {ag : Bool} {ks : List CK} (hR : Rel X G s a w) (hN : a.tmps.size = N) (hfree : G.site d = none) (hmd : s (.m d) = .undef) (hok : okI P N (.mkmap d ag ks) o = true) (he : eff s (.mkmap d ag ks) = some (c, U)) : Nxt P X G o a w (s.ups U) [d] := by
  simp only [okI, Bool.and_eq_true] at hok
  obtain ⟨h1, h2⟩ := hok
  obtain ⟨hd, hlt⟩ := okDst_spec h1
  simp only [eff] at he
  cases he
  split at h2
  · rename_i t hop
    obtain ⟨G', hR', hs⟩ := hR.newMap (d := d) (by rw [hN]; exact hlt) hfree hmd ag ks
    refine Nxt.value (v := .map (some w.heap.size)) (w' := w.alloc (.map #[] 0)) ?_ (by rw [hd]; exact hR') fun x hx => hs x (by simpa using hx)
    simp [execOp, hop, Instr.makeMap, newObj, Sem.run]
  · cases h2

/-- What is known of the map that an operand points to. -/
theorem at_map (hR : Rel X G s a w) {st : Option Nat} {ag : Bool} {ks : List CK} {x : Opd} {y : Operand} {z : Nat} {es : List (List PV × PV)} (hx : okX x y = true) (h : atMap s st ag ks (ev s x) = some (z, es)) :
    ∃ b ents clk, G.site z = some b ∧ a.eval y = .map (some b) ∧ w.heap[b]? = some (.map ents clk) ∧ MapR (Abs.fp X G) w ents ag ks es ∧ (∀ j, G.own (.m z) j = none) ∧ St ents clk := by
  have hv : V2 (Abs.fp X G) G.site w (a.eval y) (ev s x).dem2 := hR.opd _ _ hx
  unfold atMap at h
  split at h
  · rename_i yy hev
    rw [hev] at hv
    obtain ⟨⟨⟨b, hb, hav⟩, _⟩, _⟩ := hv
    split at h
    · split at h
      · rename_i ag' ks' es' hz
        split at h
        · rename_i hcc
          obtain ⟨rfl, rfl⟩ := hcc
          cases h
          have hm := hR.mem z
          rw [hz] at hm
          obtain ⟨b', ents, clk, g1, g2, g3, g4⟩ := hm
          rw [hb] at g1
          cases g1
          exact ⟨b, ents, clk, hb, hav, g2, g3, g4⟩
        · cases h
      · cases h
    · cases h
  · cases h

theorem okMapT_spec {t : TypeId} {ag : Bool} {ks : List CK} (h : okMapT P t ag ks = true) : ∃ k e, P.underlying t = some (.map k e) ∧ keyT P k ag ks := by
  unfold okMapT at h
  split at h
  · rename_i k e hu
    simp only [Bool.and_eq_true, decide_eq_true_eq] at h
    exact ⟨k, e, hu, h.1, h.2⟩
  · cases h
theorem keyT_under {t : TypeId} {ag : Bool} {ks : List CK} (h : keyT P t ag ks) : ∃ d, P.underlying t = some d := by
  have := h.2
  unfold isAggT at this
  cases hd : P.underlying t with
  | none => simp [hd] at this
  | some d => exact ⟨d, rfl⟩
theorem keyT_one {t : TypeId} {ag : Bool} {ks : List CK} (h : keyT P t ag ks) (ha : ag = false) : ks.length = 1 := by subst ha; exact eqK_one h.1 h.2

theorem i_mlook {d : Nat} {cok ag : Bool} {ks : List CK} {zv : PV} {st : Option Nat} {x k : Opd} (hR : Rel X G s a w) (hN : a.tmps.size = N) (hok : okI P N (.mlook d cok ag ks zv st x k) o = true) (he : eff s (.mlook d cok ag ks zv st x k) = some (c, U)) (hc : c) : Nxt P X G o a w (s.ups U) mk := by
  simp only [okI, Bool.and_eq_true] at hok
  obtain ⟨h1, h2⟩ := hok
  obtain ⟨hd, hlt⟩ := okDst_spec h1
  split at h2
  · rename_i t y u cc hop
    simp only [Bool.and_eq_true, beq_iff_eq] at h2
    obtain ⟨⟨⟨⟨rfl, hx⟩, hk⟩, hmt⟩, hmz⟩ := h2
    obtain ⟨kt, et, hut, hkt⟩ := okMapT_spec hmt
    obtain ⟨dd, hdd⟩ := keyT_under hkt
    simp only [eff] at he
    split at he
    · rename_i z es hat
      obtain ⟨b, ents, clk, hb, hav, hblk, hmr, hown, hstp⟩ := at_map hR hx hat
      have hkv : V2 (Abs.fp X G) G.site w (a.eval u) (ev s k).dem2 := hR.opd _ _ hk
      split at he
      · rename_i ag' kl hka
        cases he
        obtain ⟨rfl, hck⟩ := hc
        have hke := key_val hka hkv hck
        have hzero : ∃ zval, (zeroValue et).run P w = .ok zval w ∧ okC (.pv zv) zval = true := by
          unfold okMapZ at hmz
          rw [hut] at hmz
          simp only at hmz
          split at hmz
          · rename_i zval hz
            unfold zeroOf at hz
            obtain ⟨i, hi, hiz⟩ := Option.bind_eq_some_iff.1 hz
            exact ⟨zval, by simp [zeroValue, typeInfo, hi, hiz], hmz⟩
          · cases hmz
        obtain ⟨zval, hzr, hzc⟩ := hzero
        have fin : ∀ (r : Option PV) (val : Value), PR (Abs.fp X G) w val (r.getD zv) → (Instr.lookup t (.map (some b)) (keyV ag' kl) cc).run P w = .ok (if cc then .tuple #[val, .bool r.isSome] else val) w → Nxt P X G o a w (s.ups (lookA d cc zv r)) mk := by
          intro r val hpr hrun
          refine Nxt.value (v := if cc then .tuple #[val, .bool r.isSome] else val) (w' := w) (G' := { G with own := clr G.own (.t d) }) (by simp [execOp, hop, hav, hke, hrun]) ?_ (fun _ _ => rfl)
          rw [hd]
          simp only [lookA, S.ups]
          refine hR.put (by rw [hN]; exact hlt) ?_
          cases cc
          · simp only [Bool.false_eq_true, if_false]
            exact V2.mkpv hpr
          · simp only [if_true]
            refine ⟨⟨_, rfl, rfl, fun j c u h1 h2 => ?_⟩, fun _ _ => rfl⟩
            match j with
            | 0 => simp at h1 h2; subst h1 h2; exact ⟨⟨hpr, rfl⟩, fun _ _ => by simp [at0]⟩
            | 1 => simp at h1 h2; subst h1 h2; exact ⟨⟨.bool _, rfl⟩, fun _ _ => by simp [at0]⟩
            | j + 2 => simp at h1
        rcases find_spec (w := w) (el := ents.toList) (es := es) hdd hkt hck .nilp (by simpa using hmr.1) (fun j e kv g1 g2 => ⟨(hmr.2 j e kv (by simpa using g1) g2).1, (hmr.2 j e kv (by simpa using g1) g2).2.1⟩) with ⟨a1, a2, a3, a4⟩ | ⟨j, e, kv, b1, b2, b3, b4, b5, b6, b7⟩
        · rw [a1]
          have hf := find_run hdd (a4 0).1 (a4 0).2
          have hzv : PR (Abs.fp X G) w zval zv := (okC_sound (fp := Abs.fp X G) (site := G.site) (w := w) hzc).1.1
          refine fin none zval hzv ?_
          simp [Instr.lookup, run_underlying hut, MapKept.run_getObj_map hblk, key_check hkt hck, hf, hzr, Result.andThen]
        · rw [b4]
          have hf := find_run hdd (b7 0).1 (by simpa using (b7 0).2)
          have hpr := (hmr.2 j e kv (by simpa using b1) b2).2.2
          refine fin (some kv.2) e.val hpr ?_
          simp [Instr.lookup, run_underlying hut, MapKept.run_getObj_map hblk, key_check hkt hck, hf, Result.andThen]
      · cases he
    · cases he
  · cases h2

theorem i_mupd {ag : Bool} {ks : List CK} {st : Option Nat} {x k xv : Opd} (hR : Rel X G s a w) (hok : okI P N (.mupd ag ks st x k xv) o = true) (he : eff s (.mupd ag ks st x k xv) = some (c, U)) (hc : c) : Nxt P X G o a w (s.ups U) mk := by
  simp only [okI, Bool.and_eq_true, decide_eq_true_eq] at hok
  obtain ⟨hd, h2⟩ := hok
  split at h2
  · rename_i t y u q hop
    simp only [Bool.and_eq_true] at h2
    obtain ⟨⟨⟨hx, hk⟩, hq⟩, hmt⟩ := h2
    obtain ⟨kt, et, hut, hkt⟩ := okMapT_spec hmt
    obtain ⟨dd, hdd⟩ := keyT_under hkt
    simp only [eff] at he
    split at he
    · rename_i z es hat
      obtain ⟨b, ents, clk, hb, hav, hblk, hmr, hown, hstp⟩ := at_map hR hx hat
      have hkv : V2 (Abs.fp X G) G.site w (a.eval u) (ev s k).dem2 := hR.opd _ _ hk
      have hqv : V2 (Abs.fp X G) G.site w (a.eval q) (ev s xv).dem2 := hR.opd _ _ hq
      split at he
      · rename_i ag' kl hka
        split at he
        · rename_i p hp
          cases he
          obtain ⟨rfl, hck⟩ := hc
          have hke := key_val hka hkv hck
          rw [hp] at hqv
          have hpr : PR (Abs.fp X G) w (a.eval q) p := hqv.1.1
          have fin : ∀ (ents' : Array MapEntry) (clk' : Nat), (Instr.mapUpdate t (.map (some b)) (keyV ag' kl) (a.eval q)).run P w = .ok () { w with heap := w.heap.setIfInBounds b (.map ents' clk') } → MapR (Abs.fp X G) w ents' ag' ks (mset kl p es) → St ents' clk' → Nxt P X G o a w (s.ups [(.m z, .mc ag' ks (mset kl p es))]) mk := by
            intro ents' clk' hrun hm hst'
            exact Nxt.skip (G' := G) (by simp only [execOp, hop, hav, hke, Sem.run_bind, hrun, Result.andThen_ok]; rfl) hd (hR.setMap hb hblk hm hown hst') (fun _ _ => rfl)
          rcases find_spec (w := w) (el := ents.toList) (es := es) hdd hkt hck p (by simpa using hmr.1) (fun j e kv g1 g2 => ⟨(hmr.2 j e kv (by simpa using g1) g2).1, (hmr.2 j e kv (by simpa using g1) g2).2.1⟩) with ⟨a1, a2, a3, a4⟩ | ⟨j, e, kv, b1, b2, b3, b4, b5, b6, b7⟩
          · have hf := find_run hdd (a4 0).1 (a4 0).2
            refine fin (ents.push { key := keyV ag' kl, val := a.eval q, born := clk }) (clk + 1) ?_ ?_ (hstp.push _ _)
            · simp [Instr.mapUpdate, run_underlying hut, MapKept.run_getObj_map hblk, key_check hkt hck, hf, MapKept.run_setObj_map _ hblk, Result.andThen]
            · rw [a2]
              refine ⟨by simp [hmr.1], fun i e kv g1 g2 => ?_⟩
              by_cases hi : i < ents.size
              · rw [Array.getElem?_push_lt hi] at g1
                rw [List.getElem?_append_left (by rw [← hmr.1]; exact hi)] at g2
                exact hmr.2 i e kv (by rw [Array.getElem?_eq_getElem hi]; exact g1) g2
              · rw [List.getElem?_append_right (by rw [← hmr.1]; omega)] at g2
                have hlt := (List.getElem?_eq_some_iff.1 g2).1
                simp at hlt
                have hi0 : i = ents.size := by rw [hmr.1]; have := hmr.1; omega
                subst hi0
                rw [hmr.1] at g2
                simp at g1 g2
                subst g1 g2
                exact ⟨rfl, hck, hpr⟩
          · have hf := find_run hdd (b7 0).1 (by simpa using (b7 0).2)
            have b1' : ents[j]? = some e := by simpa using b1
            have hold := hmr.2 j e kv b1' b2
            have hek : e.key = keyV ag' kl := by rw [hold.1, b3]
            have hst := key_stays (P := P) hck (fun h => keyT_one hkt h) w
            refine fin (ents.modify j fun e => { e with key := keyV ag' kl, val := a.eval q }) clk ?_ ?_ (hstp.modify _ _ fun _ => rfl)
            · simp [Instr.mapUpdate, run_underlying hut, MapKept.run_getObj_map hblk, key_check hkt hck, hf, b1', hek, hst, MapKept.run_setObj_map _ hblk, Result.andThen]
            · rw [b5]
              refine ⟨by simp [hmr.1], fun i e' kv' g1 g2 => ?_⟩
              rw [Array.getElem?_modify] at g1
              rw [List.getElem?_set] at g2
              by_cases hij : j = i
              · subst hij
                rw [if_pos rfl] at g1 g2
                rw [b1'] at g1
                simp at g1
                split at g2
                · cases g2
                  subst g1
                  exact ⟨rfl, hck, hpr⟩
                · cases g2
              · rw [if_neg hij] at g1 g2
                exact hmr.2 i e' kv' g1 g2
        · cases he
      · cases he
    · cases he
  · cases h2

theorem i_mdel {ag : Bool} {ks : List CK} {st : Option Nat} {x k : Opd} (hR : Rel X G s a w) (hok : okI P N (.mdel ag ks st x k) o = true) (he : eff s (.mdel ag ks st x k) = some (c, U)) (hc : c) : Nxt P X G o a w (s.ups U) mk := by
  simp only [okI, Bool.and_eq_true, decide_eq_true_eq] at hok
  obtain ⟨hd, h2⟩ := hok
  split at h2
  · rename_i cl hop
    split at h2
    · rename_i hcal
      split at h2
      · rename_i y u t t' hargs htys
        simp only [Bool.and_eq_true] at h2
        obtain ⟨⟨hx, hk⟩, hmt⟩ := h2
        have hargs' : cl.args = #[y, u] := by cases hh : cl.args with | mk l => simp only [hh] at hargs; rw [hargs]
        have htys' : cl.argTypes = #[t, t'] := by cases hh : cl.argTypes with | mk l => simp only [hh] at htys; rw [htys]
        obtain ⟨kt, et, hut, hkt⟩ := okMapT_spec hmt
        obtain ⟨dd, hdd⟩ := keyT_under hkt
        simp only [eff] at he
        split at he
        · rename_i z es hat
          obtain ⟨b, ents, clk, hb, hav, hblk, hmr, hown, hstp⟩ := at_map hR hx hat
          have hkv : V2 (Abs.fp X G) G.site w (a.eval u) (ev s k).dem2 := hR.opd _ _ hk
          split at he
          · rename_i ag' kl hka
            cases he
            obtain ⟨rfl, hck⟩ := hc
            have hke := key_val hka hkv hck
            have fin : ∀ (ents' : Array MapEntry) (clk' : Nat), (Builtin.delete_ #[t, t'] o.type #[.map (some b), keyV ag' kl]).run P w = .ok (.tuple #[]) { w with heap := w.heap.setIfInBounds b (.map ents' clk') } → MapR (Abs.fp X G) w ents' ag' ks (mdrop kl es) → St ents' clk' → Nxt P X G o a w (s.ups [(.m z, .mc ag' ks (mdrop kl es))]) mk := by
              intro ents' clk' hrun hm hst'
              refine Nxt.value (G' := G) (v := .tuple #[]) (w' := { w with heap := w.heap.setIfInBounds b (.map ents' clk') }) ?_ ?_ (fun _ _ => rfl)
              · simp [execOp, hop, resolve, invoke, builtin, hcal, hargs', htys', hav, hke, hrun]
              · rw [hd]
                exact hR.setMap hb hblk hm hown hst'
            rcases find_spec (w := w) (el := ents.toList) (es := es) hdd hkt hck .nilp (by simpa using hmr.1) (fun j e kv g1 g2 => ⟨(hmr.2 j e kv (by simpa using g1) g2).1, (hmr.2 j e kv (by simpa using g1) g2).2.1⟩) with ⟨a1, a2, a3, a4⟩ | ⟨j, e, kv, b1, b2, b3, b4, b5, b6, b7⟩
            · have hf := find_run hdd (a4 0).1 (a4 0).2
              refine fin ents clk ?_ ?_ hstp
              · simp [Builtin.delete_, run_underlying hut, MapKept.run_getObj_map hblk, key_check hkt hck, hf, MapKept.run_setObj_map _ hblk, Result.andThen]
              · rw [a3]; exact hmr
            · have hf := find_run hdd (b7 0).1 (by simpa using (b7 0).2)
              have hl : (ents.eraseIdxIfInBounds j).toList = ents.toList.eraseIdx j := by
                unfold Array.eraseIdxIfInBounds
                split
                · rw [Array.toList_eraseIdx]
                · rename_i hj
                  rw [List.eraseIdx_of_length_le (by simpa using hj)]
              refine fin (ents.eraseIdxIfInBounds j) clk ?_ ?_ (hstp.sub (by rw [hl]; exact (List.eraseIdx_sublist _ _).map _))
              · simp [Builtin.delete_, run_underlying hut, MapKept.run_getObj_map hblk, key_check hkt hck, hf, MapKept.run_setObj_map _ hblk, Result.andThen]
              · rw [b6]
                have hl : (ents.eraseIdxIfInBounds j).toList = ents.toList.eraseIdx j := by
                  unfold Array.eraseIdxIfInBounds
                  split
                  · rw [Array.toList_eraseIdx]
                  · rename_i hj
                    rw [List.eraseIdx_of_length_le (by simpa using hj)]
                refine ⟨?_, fun i e' kv' g1 g2 => ?_⟩
                · rw [← Array.length_toList, hl, List.length_eraseIdx, List.length_eraseIdx]
                  have := hmr.1
                  simp [this]
                · rw [← Array.getElem?_toList, hl, List.getElem?_eraseIdx] at g1
                  rw [List.getElem?_eraseIdx] at g2
                  split at g1
                  · rename_i hij
                    rw [if_pos hij] at g2
                    exact hmr.2 i e' kv' (by simpa using g1) g2
                  · rename_i hij
                    rw [if_neg hij] at g2
                    exact hmr.2 (i + 1) e' kv' (by simpa using g1) g2
          · cases he
        · cases he
      · cases h2
    · cases h2
  · cases h2

/-- A built struct becomes a variable; what it owns moves. -/
theorem i_boxmv {d n : Nat} (hR : Rel X G s a w) (hN : a.tmps.size = N) (hfree : G.site d = none) (hmd : s (.m d) = .undef) (hok : okI P N (.boxmv d n) o = true) (he : eff s (.boxmv d n) = some (c, U)) (hc : c) : Nxt P X G o a w (s.ups U) [d] := by
  simp only [okI, Bool.and_eq_true, bne_iff_ne, ne_eq] at hok
  obtain ⟨⟨h1, hne⟩, h2⟩ := hok
  obtain ⟨hd, hlt⟩ := okDst_spec h1
  split at h2
  · rename_i e m hop
    simp only [beq_iff_eq] at h2
    subst h2
    simp only [eff] at he
    split at he
    · rename_i l hsn
      cases he
      have htn := hR.tmp m
      rw [hsn] at htn
      have hw : V2 (Abs.fp X G) G.site w (a.eval (.tmp m)) (s (.t m)).dem2 := hR.opd (.t m) (.tmp m) (by simp [okX])
      rw [hsn] at hw
      obtain ⟨⟨vs, hvs, hsz, hcells⟩, hbnd⟩ := htn
      have hevm : a.eval (.tmp m) = .agg vs := hvs
      rw [hevm] at hw
      have hwn : V2 (Abs.fp X G) G.site w (.agg vs) (.agg (l.map AV.dem0)) := hw
      obtain ⟨G1, hR1, hs1⟩ := hR.newSite (d := d) (e := e) (by rw [hN]; exact hlt) hfree hmd hwn trivial
      have hb1 : G1.site d = some w.heap.size := by
        have := hR1.tmp d
        rw [S.up_same, getD_put_same (by rw [hN]; exact hlt)] at this
        obtain ⟨⟨⟨b, g1, g2⟩, _⟩, _⟩ := this
        cases g2
        exact g1
      have hm1 : VR2 (Abs.fp X G1) G1.site (w.alloc (.cells vs e)) (.agg vs) (.agg l) (G1.own (.t m)) := by
        have := hR1.tmp m
        rw [S.up_other _ _ (by simp [hne]), S.up_other _ _ (by simp), hsn, getD_put_other hne, hvs] at this
        exact this
      have hmd1 : VR2 (Abs.fp X G1) G1.site (w.alloc (.cells vs e)) (.agg vs) (.agg (l.map AV.dem0)) (fun _ => none) := by
        have := (hR1.opd (.t m) (.tmp m) (by simp [okX]))
        have e1 : (a.put (some d) (.pointer (some ⟨w.heap.size, 0, none⟩))).eval (.tmp m) = .agg vs := by
          show (a.put _ _).tmps.getD m Go.undef = _
          rw [getD_put_other hne, hvs]
        have e2 : ev ((s.up (.m d) (.agg (l.map AV.dem0))).up (.t d) (.ptr d 0)) (.t m) = .agg l := by
          simp only [ev]
          rw [S.up_other _ _ (by simp [hne]), S.up_other _ _ (by simp), hsn]
        simp only [e1, e2] at this
        exact this
      have hrel : Rel X { G1 with own := mvTA G1.own m d } (((s.up (.m d) (.agg l)).up (.t m) (.agg (l.map AV.dem0))).up (.t d) (.ptr d 0)) (a.put (some d) (.pointer (some ⟨w.heap.size, 0, none⟩))) (w.alloc (.cells vs e)) := by
        refine hR1.same (mvTA G1.own m d) (fun k j be hk => ?_) (fun k j k' j' b1 e2 e3 h1 h2 => ?_) (fun t => ?_) (fun x => ?_) ((put_defers _ _ _).trans hR.df)
        · unfold mvTA at hk
          split at hk
          · exact ⟨_, _, hk⟩
          · split at hk
            · cases hk
            · exact ⟨_, _, hk⟩
        · unfold mvTA at h1 h2
          split at h1
          · rename_i p1
            split at h2
            · rename_i p2
              exact ⟨p1.trans p2.symm, (hR1.ownI _ _ _ _ _ _ _ h1 h2).2⟩
            · split at h2
              · cases h2
              · rename_i p2 p3
                exact absurd (hR1.ownI _ _ _ _ _ _ _ h1 h2).1.symm p3
          · split at h1
            · cases h1
            · rename_i p1 p3
              split at h2
              · exact absurd (hR1.ownI _ _ _ _ _ _ _ h1 h2).1 p3
              · split at h2
                · cases h2
                · exact hR1.ownI _ _ _ _ _ _ _ h1 h2
        · by_cases htm : t = m
          · subst htm
            have e2 : mvTA G1.own t d (.t t) = fun _ => none := by funext j; simp [mvTA]
            rw [S.up_other _ _ (by simp [hne]), S.up_same, e2, getD_put_other hne, hvs]
            exact hmd1
          · have e2 : mvTA G1.own m d (.t t) = G1.own (.t t) := by funext j; simp [mvTA, htm]
            rw [e2]
            have := hR1.tmp t
            by_cases htd : t = d
            · subst htd
              rw [S.up_same] at this ⊢
              exact this
            · rw [S.up_other _ _ (by simp [htd]), S.up_other _ _ (by simp [htm]), S.up_other _ _ (by simp)]
              rw [S.up_other _ _ (by simp [htd]), S.up_other _ _ (by simp)] at this
              exact this
        · rw [S.up_other _ _ (by simp), S.up_other _ _ (by simp)]
          by_cases hx : x = d
          · subst hx
            rw [S.up_same]
            have e2 : mvTA G1.own m x (.m x) = G1.own (.t m) := by funext j; simp [mvTA]
            rw [e2]
            exact ⟨w.heap.size, vs, #[], e, hb1, by rw [Array.append_empty]; exact heap_alloc_new w _, hm1, trivial⟩
          · have e2 : mvTA G1.own m d (.m x) = G1.own (.m x) := by funext j; simp [mvTA, hx]
            rw [e2, S.up_other _ _ (by simp [hx])]
            have := hR1.mem x
            rw [S.up_other _ _ (by simp), S.up_other _ _ (by simp [hx])] at this
            exact this
      refine Nxt.value (G' := { G1 with own := mvTA G1.own m d }) (v := .pointer (some ⟨w.heap.size, 0, none⟩)) (w' := w.alloc (.cells vs e)) ?_ (by rw [hd]; exact hrel) fun x hx => hs1 x (by simpa using hx)
      simp [execOp, hop, Instr.box, newVar, newRow, newObj, Sem.run, hevm]
      rfl
    · cases he
  · cases h2

theorem i_mk0 {d e sz : Nat} (hR : Rel X G s a w) (hN : a.tmps.size = N) (hok : okI P N (.mk0 d e sz) o = true) (he : eff s (.mk0 d e sz) = some (c, U)) (hc : c) : Nxt P X G o a w (s.ups U) mk := by
  simp only [okI, Bool.and_eq_true] at hok
  obtain ⟨h1, h2⟩ := hok
  obtain ⟨hd, hlt⟩ := okDst_spec h1
  simp only [eff, Option.some.injEq, Prod.mk.injEq] at he
  obtain ⟨_, rfl⟩ := he
  split at h2
  · rename_i t n' ps' hop
    simp only [Bool.and_eq_true, beq_iff_eq, decide_eq_true_eq] at h2
    obtain ⟨⟨⟨⟨⟨rfl, hu⟩, hsz⟩, hpos⟩, hz⟩, hps⟩ := h2
    have hu' : P.underlying t = some (.slice e) := by
      unfold uSlice at hu
      split at hu
      · rename_i e' he'; simp at hu; subst hu; exact he'
      · cases hu
    obtain ⟨ie, hie, hsn⟩ := Option.map_eq_some_iff.1 (by simpa [szOf] using hsz)
    obtain ⟨zv, hzv⟩ := Option.isSome_iff_exists.1 hz
    unfold zeroOf at hzv
    obtain ⟨it, hit, hzi⟩ := Option.bind_eq_some_iff.1 hzv
    rw [hie] at hit
    cases hit
    have hp0 : ps' = #[] := by
      have : ps'.toList = [] := by simpa using hps
      exact Array.toList_inj.1 this
    subst hp0
    have hemp : Array.range 0 = #[] := rfl
    have hrun : (Instr.buildSlice t 0 #[]).run P w = .ok (.slice (some ⟨w.heap.size, 0, none⟩) 0 0) (w.alloc (.cells #[] e)) := by
      simp [Instr.buildSlice, run_underlying hu', sizeOf, typeInfo, zeroValue, hie, hzi, hemp, Instr.fill, newRow]
    obtain ⟨G', hR', hs⟩ := hR.newOwn (d := d) (e := e) (sz := sz) (es := []) (cs := #[]) (by rw [hN]; exact hlt) (PRs.nil _ _) (by simp) hpos (Nat.zero_le _)
    have q := hR'.put (d := d) (by rw [put_size, hN]; exact hlt) (v := .slice (some ⟨w.heap.size, 0, none⟩) 0 0) (av := .e0) ⟨⟨⟨_, rfl⟩, rfl⟩, fun _ _ => rfl⟩
    have e1 : (s.up (.t d) (.os e sz [])).up (.t d) .e0 = s.up (.t d) .e0 := by
      funext k
      by_cases hk : k = .t d
      · subst hk; rw [S.up_same, S.up_same]
      · rw [S.up_other _ _ hk, S.up_other _ _ hk, S.up_other _ _ hk]
    have e2 : (a.put (some d) (.slice (some ⟨w.heap.size, 0, none⟩) ([] : List (List PV)).length ([] : List (List PV)).length)).put (some d) (.slice (some ⟨w.heap.size, 0, none⟩) 0 0) = a.put (some d) (.slice (some ⟨w.heap.size, 0, none⟩) 0 0) := by rw [put_put]
    rw [e1, e2] at q
    exact Nxt.value (G' := { G' with own := clr G'.own (.t d) }) (w' := w.alloc (.cells #[] e)) (v := .slice (some ⟨w.heap.size, 0, none⟩) 0 0) (by simp [execOp, hop, Sem.run_bind, hrun, Result.andThen_ok]) (by rw [hd]; exact q) fun x _ => hs x
  · cases h2

theorem i_appx {d e sz n : Nat} {st : Option Nat} {x : Opd} (hR : Rel X G s a w) (hN : a.tmps.size = N) (hfree : G.site d = none) (hmd : s (.m d) = .undef) (hok : okI P N (.appx d e sz n st x) o = true) (he : eff s (.appx d e sz n st x) = some (c, U)) (hc : c) : Nxt P X G o a w (s.ups U) [d] := by
  simp only [okI, Bool.and_eq_true, bne_iff_ne] at hok
  obtain ⟨⟨h1, hnd⟩, h2⟩ := hok
  obtain ⟨hd, hlt⟩ := okDst_spec h1
  split at h2
  · rename_i cl hop
    split at h2
    · rename_i hcal
      split at h2
      · rename_i m y t t' hargs hat
        simp only [Bool.and_eq_true, beq_iff_eq, decide_eq_true_eq] at h2
        obtain ⟨⟨⟨⟨⟨⟨⟨rfl, hx⟩, rfl⟩, hu⟩, hsz⟩, hpos⟩, hby⟩, hzz⟩ := h2
        have hu' : P.underlying t = some (.slice e) := by
          unfold uSlice at hu
          split at hu
          · rename_i e' he'; simp at hu; subst hu; exact he'
          · cases hu
        obtain ⟨ie, hie, hsn⟩ := Option.map_eq_some_iff.1 (by simpa [szOf] using hsz)
        split at hby
        · rename_i byy hbyy
          rw [hie] at hbyy
          simp only [Option.map_some, Option.some.injEq] at hbyy
          simp only [decide_eq_true_eq] at hby
          split at hzz
          · rename_i zv hzv
            simp only [beq_iff_eq] at hzz
            unfold zeroOf at hzv
            rw [hie] at hzv
            simp only [Option.bind_some] at hzv
            have hA : cl.args = #[.tmp m, y] := by cases hh : cl.args with | mk l => simp only [hh] at hargs; rw [hargs]
            have hT : cl.argTypes = #[t, t] := by cases hh : cl.argTypes with | mk l => simp only [hh] at hat; rw [hat]
            have hev : a.eval (.tmp m) = a.tmps.getD m Go.undef := rfl
            simp only [eff] at he
            split at he
            · rename_i hsm
              split at he
              · rename_i c' szx rows hrows
                have htn := hR.tmp m
                rw [hsm] at htn
                obtain ⟨⟨⟨B, hB⟩, _⟩, _⟩ := htn
                have hc' : c' := by
                  split at he
                  · cases he; exact hc
                  · cases he; exact hc.2.1
                -- what is appended, if something is
                have src : ∃ A cap news, a.eval y = .slice A rows.length cap ∧ news.length = rows.length * szx ∧ PRs (Abs.fp X G) w news rows.flatten ∧ (0 < rows.length → ∃ ad, A = some ad ∧ ∀ (j : Nat) u, news[j]? = some u → w.cell? (ad.add j) = some u) ∧ (∀ r ∈ rows, r.length = szx) ∧ ∀ u ∈ news, u.oneCell' = true := by
                  have fromSl : PR (Abs.fp X G) w (a.eval y) (.sl szx rows) → ∃ A cap news, a.eval y = .slice A rows.length cap ∧ news.length = rows.length * szx ∧ PRs (Abs.fp X G) w news rows.flatten ∧ (0 < rows.length → ∃ ad, A = some ad ∧ ∀ (j : Nat) u, news[j]? = some u → w.cell? (ad.add j) = some u) ∧ (∀ r ∈ rows, r.length = szx) ∧ ∀ u ∈ news, u.oneCell' = true := fun hp => by
                    by_cases hne : rows = []
                    · obtain ⟨A, cap, h⟩ := rows_nil hp hne
                      subst hne
                      exact ⟨A, cap, [], h, by simp, PRs.nil _ _, fun h => by simp at h, by simp, by simp⟩
                    · obtain ⟨A, cap, news, g1, g2, g3, g4, g5⟩ := hp.rows hne
                      exact ⟨A, cap, news, g1, g2, g3, fun _ => g4, g5, g3.one⟩
                  have hv : V2 (Abs.fp X G) G.site w (a.eval y) (ev s x).dem2 := hR.opd _ _ hx
                  generalize ev s x = q at hrows hv
                  cases q <;> simp only [rowsA, reduceCtorEq] at hrows
                  case pv p =>
                    cases p <;> simp only [Option.some.injEq, Prod.mk.injEq, reduceCtorEq] at hrows
                    obtain ⟨_, rfl, rfl⟩ := hrows
                    exact fromSl hv.pv
                  case os e2 sz2 es2 =>
                    simp only [Option.some.injEq, Prod.mk.injEq] at hrows
                    obtain ⟨_, rfl, rfl⟩ := hrows
                    exact fromSl hv.pv
                  case sr yy oo n2 sz2 =>
                    split at hrows
                    · split at hrows
                      · rename_i hs2 _ l hl
                        obtain ⟨hs1, _⟩ := hs2
                        simp only [Option.some.injEq, Prod.mk.injEq] at hrows
                        obtain ⟨rfl, rfl, rfl⟩ := hrows
                        obtain ⟨b, cap, hb, hav, _, _⟩ := hv.sr
                        obtain ⟨cs, rest, et, hblk, hz⟩ := hR.block hb (by rw [hl]; trivial)
                        rw [hl] at hz
                        obtain ⟨⟨cs', e1, h1⟩, _⟩ := hz
                        cases e1
                        have hl2 : cs.size = l.length := by simpa using h1.1
                        have hfl : (((l.drop oo).take n2).map fun p => [p]).flatten = (l.drop oo).take n2 := by
                          generalize (l.drop oo).take n2 = q
                          induction q with
                          | nil => rfl
                          | cons p q ih => simp only [List.map_cons, List.flatten_cons, ih]; rfl
                        have hn2 : (((l.drop oo).take n2).map fun p => [p]).length = n2 := by simp; omega
                        refine ⟨some ⟨b, oo, none⟩, cap, (cs.toList.drop oo).take n2, by rw [hn2]; exact hav, by rw [hn2]; simp; omega, by rw [hfl]; exact (h1.drop oo).take n2, fun _ => ⟨_, rfl, fun j u hu => ?_⟩, fun r hr => ?_, ((h1.drop oo).take n2).one⟩
                        · rw [Addr.add_mid]; refine cell_of_pre hblk ?_
                          simp only [List.getElem?_take, List.getElem?_drop, Array.getElem?_toList] at hu
                          split at hu
                          · exact hu
                          · cases hu
                        · obtain ⟨p, _, rfl⟩ := List.mem_map.1 hr; rfl
                      · cases hrows
                    · cases hrows
                obtain ⟨A, cap, news, g1, g2, g3, g4, g5, g6⟩ := src
                split at he
                · rename_i hl0
                  cases he
                  have hrun : (Builtin.append_ #[t, t] o.type #[.slice B 0 0, .slice A rows.length cap]).run P w = .ok (.slice B 0 0) w := by
                    rw [hl0]
                    cases A <;> cases B <;> simp [Builtin.append_, run_underlying hu', sizeOf, typeInfo, hie, Builtin.lenOf, Builtin.firstCells, loadCells, loadCellsFrom, storeCells]
                  refine Nxt.value (G' := { G with own := clr G.own (.t d) }) (v := .slice B 0 0) (w' := w) ?_ (by rw [hd]; exact hR.put (by rw [hN]; exact hlt) (V2.mkpv (.sl0 B 0 sz (Nat.zero_le _) fun _ => rfl))) fun x _ => rfl
                  simp only [execOp, hop, resolve, hcal, hA, hT, Sem.run_bind, Sem.run_pure, Result.andThen_ok, invoke, builtin, List.map_toArray, List.map_cons, List.map_nil, hev, hB, g1, hrun]
                · rename_i hl0
                  cases he
                  obtain ⟨rfl, _, hlen⟩ := hc
                  obtain ⟨ad, rfl, g4'⟩ := g4 (by omega)
                  obtain ⟨cap', rest, q1, q2, hrun⟩ := run_app0 (P := P) (w := w) (ty := o.type) (B := B) hu' hie hzv hsn hbyy g2 g4' (c := cap) (by omega) (by unfold maxLen; omega) (by
                    have := Nat.mul_le_mul hlen hby
                    omega)
                  have hcv : V2 (Abs.fp X G) G.site w.drew (.agg news.toArray) (.pagg rows.flatten) := ⟨⟨_, rfl, by have := PRs.mono (w := w) (w' := w.drew) (fp' := Abs.fp X G) (fun _ _ _ hf hc => ⟨hf, hc⟩) g3; simpa only [List.toList_toArray] using this⟩, fun _ => rfl⟩
                  obtain ⟨G', hR', hs⟩ := hR.drew.newSiteR (d := d) (rest := rest) (e := e) (by rw [hN]; exact hlt) hfree hmd hcv trivial
                  have hp := hR'.tmp d
                  rw [getD_put_same (by rw [hN]; exact hlt), S.up_same] at hp
                  obtain ⟨⟨⟨b, hb, hv⟩, _⟩, _⟩ := hp
                  cases hv
                  have q := hR'.put (d := d) (by rw [put_size, hN]; exact hlt) (v := .slice (some ⟨w.heap.size, 0, none⟩) rows.length cap') (av := .sr d 0 rows.length szx) ⟨⟨⟨_, cap', hb, rfl, q1, q2⟩, rfl⟩, fun _ _ => rfl⟩
                  rw [put_put, up_up] at q
                  refine Nxt.value (G' := { G' with own := clr G'.own (.t d) }) (v := .slice (some ⟨w.heap.size, 0, none⟩) rows.length cap') (w' := w.drew.alloc (.cells (news.toArray ++ rest) e)) ?_ (by rw [hd]; exact q) fun x hx => hs x (by simpa using hx)
                  simp only [execOp, hop, resolve, hcal, hA, hT, Sem.run_bind, Sem.run_pure, Result.andThen_ok, invoke, builtin, List.map_toArray, List.map_cons, List.map_nil, hev, hB, g1, hrun]
              · cases he
            · cases he
          · cases hzz
        · cases hby
      · cases h2
    · cases h2
  · cases h2
end
end Go.Abs
end
