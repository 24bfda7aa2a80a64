/- A virtual machine for loaded programs, and that the interpreter does what it does. No conditions beyond each theorem. The pure interpreter: values are trees, slices are lists; memory is a small table of regions and boxes. Definitions alone. What it means that a tree stands for what lies in the machine's memory; and that it goes on standing for it while other memory turns. The relation between the interpreter's state and the machine's: small laws. Types of the loaded program and their trees: a check that the kernel can run, and what it gives. Parts of values and parts of cells: reading and replacing them. Operands and simple operations: what the interpreter does, the machine does. -/
import GoSem.Step
import Derived.Below
import Derived.Laws.AppendOwn
import Derived.Laws.MakeOwn
import Derived.Laws.Sem
import Derived.Laws.Cells
import Derived.Orders
section
namespace Go.Vm

/-- A region's name: 0 :: slot :: path, or 1 :: box :: path. -/
abbrev RId := List Nat

inductive PV where
  | bool (b : Bool)
  | int (k : IntKind) (n : Int)
  | str (s : List UInt8)
  | agg (fs : List PV)
  | arr (xs : List PV)
  | nil
  | sl (isNil : Bool) (xs : List PV)
  | own (isNil : Bool) (xs : List PV)
  | ref (r : RId)
  | sub (r : RId) (lo hi : Nat)
  | ptr (b : Nat) (path : List Nat)
  | eptr (r : RId) (i : Nat) (path : List Nat)
  | rptr (x : PV)
  | nilp
  | map (es : List (PV × PV))
  | omap (es : List (PV × PV))
  | mref (r : RId)
  | fn (f : Nat)
  | inout (x : PV)
  | undef
  | dead
  deriving Inhabited

/-- A value's type, as far as memory's layout and Go's zero values want it. -/
inductive TD where
  | bool
  | int (k : IntKind)
  | str
  | slice (e : TD)
  | struct (fs : List TD)
  | arr (n : Nat) (e : TD)
  | ptr (e : TD)
  | map (k e : TD)
  | func
  | tup (ts : List TD)
  deriving Inhabited

mutual
def TD.size : TD → Nat
  | .struct fs => TD.sizes fs
  | .arr n e => n * e.size
  | _ => 1
def TD.sizes : List TD → Nat
  | [] => 0
  | t :: ts => t.size + TD.sizes ts
end

-- The zero value as an element of a slice: nothing in it is a region.
mutual
def TD.izero : TD → PV
  | .bool => .bool false
  | .int k => .int k 0
  | .str => .str []
  | .slice _ => .sl true []
  | .struct fs => .agg (TD.izeros fs)
  | .arr n e => .arr (List.replicate n e.izero)
  | .ptr _ => .nilp
  | .map _ _ => .nilp
  | .func => .nilp
  | .tup _ => .nilp
def TD.izeros : List TD → List PV
  | [] => []
  | t :: ts => t.izero :: TD.izeros ts
end

mutual
def TD.zero : TD → PV
  | .bool => .bool false
  | .int k => .int k 0
  | .str => .str []
  | .slice _ => .nil
  | .struct fs => .agg (TD.zeros fs)
  | .arr n e => .arr (List.replicate n e.izero)
  | .ptr _ => .nilp
  | .map _ _ => .nilp
  | .func => .nilp
  | .tup _ => .nilp
def TD.zeros : List TD → List PV
  | [] => []
  | t :: ts => t.zero :: TD.zeros ts
end

-- No slice, map or pointer is in it.
mutual
def TD.flat : TD → Bool
  | .bool | .int _ | .str => true
  | .struct fs => TD.flats fs
  | .arr _ e => e.flat
  | _ => false
def TD.flats : List TD → Bool
  | [] => true
  | t :: ts => t.flat && TD.flats ts
end

-- What a call hands back can't lead to what it was handed: slices in it have flat elements.
mutual
def TD.mild : TD → Bool
  | .slice e => e.flat
  | .map k e => k.flat && e.flat
  | .struct fs => TD.milds fs
  | .tup ts => TD.milds ts
  | .arr _ e => e.flat
  | .bool | .int _ | .str => true
  | _ => false
def TD.milds : List TD → Bool
  | [] => true
  | t :: ts => t.mild && TD.milds ts
end

def TD.isAgg : TD → Bool
  | .struct _ => true
  | .arr _ _ => true
  | _ => false
/-- The value that some cells make. -/
def TD.valOf (td : TD) (cs : List Value) : Value :=
  if td.isAgg then .agg cs.toArray else match cs with | [v] => v | _ => Go.undef
/-- A part's type, and how many cells lie ahead of it. -/
def TD.field : List TD → Nat → Option (TD × Nat)
  | [], _ => none
  | t :: _, 0 => some (t, 0)
  | t :: ts, i + 1 => match TD.field ts i with | some (u, o) => some (u, t.size + o) | none => none
def TD.at : TD → List Nat → Option (TD × Nat)
  | t, [] => some (t, 0)
  | .struct fs, i :: p => match TD.field fs i with
    | some (t, o) => match TD.at t p with | some (u, o') => some (u, o + o') | none => none
    | none => none
  | .arr n e, i :: p => if i < n then match TD.at e p with | some (u, o) => some (u, i * e.size + o) | none => none else none
  | _, _ :: _ => none

/-! ### The state -/
structure Reg where
  isNil : Bool
  frozen : Bool
  xs : List PV
  deriving Inhabited
inductive RegC where
  | row (r : Reg)
  | mp (frozen : Bool) (es : List (PV × PV))
  deriving Inhabited

structure St where
  sl : List (Nat × PV)
  bx : List (Nat × PV)
  rg : List (RId × RegC)
  deriving Inhabited

def look {α : Type} (k : Nat) : List (Nat × α) → Option α
  | [] => none
  | (j, v) :: r => if j = k then some v else look k r
def put {α : Type} (k : Nat) (v : α) : List (Nat × α) → List (Nat × α)
  | [] => [(k, v)]
  | (j, u) :: r => if j = k then (k, v) :: r else (j, u) :: put k v r
def lookR {α : Type} (k : RId) : List (RId × α) → Option α
  | [] => none
  | (j, v) :: r => if j = k then some v else lookR k r
def putR {α : Type} (k : RId) (v : α) : List (RId × α) → List (RId × α)
  | [] => [(k, v)]
  | (j, u) :: r => if j = k then (k, v) :: r else (j, u) :: putR k v r
def dropR {α : Type} (k : RId) : List (RId × α) → List (RId × α)
  | [] => []
  | (j, u) :: r => if j = k then dropR k r else (j, u) :: dropR k r

/-- A part of a value. -/
def getAt : PV → List Nat → Option PV
  | x, [] => some x
  | .agg fs, i :: p => match fs[i]? with | some y => getAt y p | none => none
  | .arr xs, i :: p => match xs[i]? with | some y => getAt y p | none => none
  | _, _ :: _ => none
-- Nothing in it leads to a region or a box.
mutual
def PV.plain : PV → Bool
  | .bool _ | .int _ _ | .str _ | .arr _ | .sl _ _ | .nilp | .map _ | .fn _ => true
  | .agg fs => PV.plains fs
  | _ => false
def PV.plains : List PV → Bool
  | [] => true
  | x :: xs => x.plain && PV.plains xs
end
def setAt : PV → List Nat → PV → Option PV
  | _, [], v => some v
  | .agg fs, i :: p, v => match fs[i]? with
    | some y => match setAt y p v with | some z => some (.agg (fs.set i z)) | none => none
    | none => none
  | .arr xs, i :: p, v => if v.plain then match xs[i]? with
    | some y => match setAt y p v with | some z => some (.arr (xs.set i z)) | none => none
    | none => none
    else none
  | _, _ :: _, _ => none

/-- What a slice's value reads as. -/
def St.content (st : St) : PV → Option (Bool × List PV)
  | .nil => some (true, [])
  | .sl n xs => some (n, xs)
  | .ref r => match lookR r st.rg with | some (.row g) => some (g.isNil, g.xs) | _ => none
  | .sub r lo hi => match lookR r st.rg with
    | some (.row g) => if lo ≤ hi ∧ hi ≤ g.xs.length then some (g.isNil, (g.xs.drop lo).take (hi - lo)) else none
    | _ => none
  | _ => none
/-- What a map's value reads as. -/
def St.entries (st : St) : PV → Option (List (PV × PV))
  | .map es => some es
  | .nilp => some []
  | .mref r => match lookR r st.rg with | some (.mp _ es) => some es | _ => none
  | _ => none

-- A value as another one may hold it for good: what it refers to is written out; and which regions these are.
mutual
def St.imm (st : St) : PV → Option (PV × List RId)
  | .bool b => some (.bool b, [])
  | .int k n => some (.int k n, [])
  | .str s => some (.str s, [])
  | .agg fs => match St.imms st fs with | some (gs, l) => some (.agg gs, l) | none => none
  | .arr xs => some (.arr xs, [])
  | .nil => some (.sl true [], [])
  | .sl n xs => some (.sl n xs, [])
  | .ref r => match lookR r st.rg with | some (.row g) => some (.sl g.isNil g.xs, [r]) | _ => none
  | .sub r lo hi => match lookR r st.rg with
    | some (.row g) => if lo ≤ hi ∧ hi ≤ g.xs.length then some (.sl g.isNil ((g.xs.drop lo).take (hi - lo)), [r]) else none
    | _ => none
  | .nilp => some (.nilp, [])
  | .map es => some (.map es, [])
  | .mref r => match lookR r st.rg with | some (.mp _ es) => some (.map es, [r]) | _ => none
  | .fn f => some (.fn f, [])
  | _ => none
def St.imms (st : St) : List PV → Option (List PV × List RId)
  | [] => some ([], [])
  | x :: xs => match St.imm st x with
    | some (y, l) => match St.imms st xs with | some (ys, m) => some (y :: ys, l ++ m) | none => none
    | none => none
end

def RegC.freeze : RegC → RegC
  | .row g => .row { g with frozen := true }
  | .mp _ es => .mp true es
def St.freeze (st : St) : List RId → St
  | [] => st
  | r :: rs => match lookR r st.rg with
    | some g => St.freeze { st with rg := putR r g.freeze st.rg } rs
    | none => St.freeze st rs

-- A value as a call hands it back: regions of the call's own become 'own'; which ones.
mutual
def St.exp (st : St) : PV → Option (PV × List RId)
  | .bool b => some (.bool b, [])
  | .int k n => some (.int k n, [])
  | .str s => some (.str s, [])
  | .agg fs => match St.exps st fs with | some (gs, l) => some (.agg gs, l) | none => none
  | .arr xs => some (.arr xs, [])
  | .nil => some (.own true [], [])
  | .sl n xs => some (.sl n xs, [])
  | .ref r => match lookR r st.rg with
    | some (.row g) => if g.frozen then some (.sl g.isNil g.xs, []) else some (.own g.isNil g.xs, [r])
    | _ => none
  | .sub r lo hi => match lookR r st.rg with
    | some (.row g) => if lo ≤ hi ∧ hi ≤ g.xs.length then
        (if g.frozen then some (.sl g.isNil ((g.xs.drop lo).take (hi - lo)), []) else some (.own g.isNil ((g.xs.drop lo).take (hi - lo)), [r])) else none
    | _ => none
  | .nilp => some (.nilp, [])
  | .map es => some (.map es, [])
  | .mref r => match lookR r st.rg with
    | some (.mp fz es) => if fz then some (.map es, []) else some (.omap es, [r])
    | _ => none
  | .fn f => some (.fn f, [])
  | _ => none
def St.exps (st : St) : List PV → Option (List PV × List RId)
  | [] => some ([], [])
  | x :: xs => match St.exp st x with
    | some (y, l) => match St.exps st xs with | some (ys, m) => some (y :: ys, l ++ m) | none => none
    | none => none
end

-- What a call has handed back becomes the caller's: 'own' becomes a region named by its place.
mutual
def imp (base : RId) : PV → PV × List (RId × RegC)
  | .own n xs => (.ref base, [(base, .row ⟨n, false, xs⟩)])
  | .omap es => (.mref base, [(base, .mp false es)])
  | .agg fs => ((imps base 0 fs).1 |> .agg, (imps base 0 fs).2)
  | x => (x, [])
def imps (base : RId) (i : Nat) : List PV → List PV × List (RId × RegC)
  | [] => ([], [])
  | x :: xs => ((imp (base ++ [i]) x).1 :: (imps base (i + 1) xs).1, (imp (base ++ [i]) x).2 ++ (imps base (i + 1) xs).2)
end

/-! ### Operations -/
inductive VA where
  | s (n : Nat)
  | c (v : PV)
  deriving Inhabited
def VA.eval (st : St) : VA → Option PV
  | .s n => look n st.sl
  | .c v => some v

inductive VO where
  | move (x : VA)
  | pick (c a b : VA)
  | alloc (td : TD)
  | box (td : TD) (x : VA)
  | build (td : TD) (parts : List (Nat × VA))
  | buildSlice (e : TD) (len : Nat) (parts : List (Nat × VA))
  | load (x : VA)
  | store (x v : VA)
  | nilCheck (x : VA)
  | bin (op : BinOp) (x y : VA)
  | un (op : UnOp) (x : VA)
  | convInt (k : IntKind) (x : VA)
  | convBytes (x : VA)
  | convStr (x : VA)
  | makeSlice (e : TD) (bytes : Nat) (l c : VA)
  | slice (x : VA) (lo hi : Option VA)
  | fieldAddr (x : VA) (f : Nat)
  | field (x : VA) (f : Nat)
  | indexAddr (x i : VA)
  | index (x i : VA)
  | extract (x : VA) (i : Nat)
  | makeMap
  | lookup (e : TD) (x k : VA) (ok : Bool)
  | mapUpdate (x k v : VA)
  | call (f : Nat) (args : List VA) (res : TD)
  | len (x : VA)
  | append (bytes : Nat) (x y : VA)
  | minmax (isMax : Bool) (x y : VA)
  deriving Inhabited

structure VOp where
  dst : Option Nat
  op : VO
  guard : Option (Nat × Bool)
  deriving Inhabited

inductive VCode where
  | skip
  | region (draw : Bool) (ops : List VOp) (keep : List Nat)
  | seq (a b : VCode)
  | cond (c : VA) (a b : VCode)
  | block (id : Nat) (c : VCode)
  | loop (K : List Nat) (c : VCode)
  | exit (id : Nat)
  | ret
  deriving Inhabited

inductive VRes where
  | slot (n : Nat)
  | cell (n : Nat)
  deriving Inhabited
structure VF where
  params : List TD
  results : List TD
  ret : TD
  tys : List TD
  res : List VRes
  ntmps : Nat
  body : VCode
  deriving Inhabited

/-! ### Whole numbers, strings, equality -/
def binInt (op : BinOp) (k : IntKind) (a b : Int) : Option PV :=
  match op with
  | .add => some (.int k (k.wrap (a + b)))
  | .sub => some (.int k (k.wrap (a - b)))
  | .mul => some (.int k (k.wrap (a * b)))
  | .quo => if b = 0 then none else some (.int k (k.wrap (a.tdiv b)))
  | .rem => if b = 0 then none else some (.int k (a.tmod b))
  | .and => some (.int k (k.wrap (BitVec.ofInt k.bits a &&& BitVec.ofInt k.bits b).toNat))
  | .or => some (.int k (k.wrap (BitVec.ofInt k.bits a ||| BitVec.ofInt k.bits b).toNat))
  | .xor => some (.int k (k.wrap (BitVec.ofInt k.bits a ^^^ BitVec.ofInt k.bits b).toNat))
  | .andNot => some (.int k (k.wrap (BitVec.ofInt k.bits a &&& ~~~ (BitVec.ofInt k.bits b)).toNat))
  | .eql => some (.bool (decide (a = b)))
  | .neq => some (.bool (!decide (a = b)))
  | .lss => some (.bool (decide (a < b)))
  | .leq => some (.bool (decide (a ≤ b)))
  | .gtr => some (.bool (decide (a > b)))
  | .geq => some (.bool (decide (a ≥ b)))
  | _ => none
def shiftInt (op : BinOp) (k : IntKind) (a b : Int) : Option PV :=
  if b < 0 then none else
  match op with
  | .shl => some (.int k (k.wrap (a * 2 ^ (min b.toNat k.bits))))
  | .shr => some (.int k (a.fdiv (2 ^ (min b.toNat k.bits))))
  | _ => none
def bytesLess : List UInt8 → List UInt8 → Bool
  | _, [] => false
  | [], _ :: _ => true
  | a :: x, b :: y => decide (a < b) || (decide (a = b) && bytesLess x y)
def binStr (op : BinOp) (a b : List UInt8) : Option PV :=
  match op with
  | .add => if a.length + b.length ≤ 4611686018427387904 then some (.str (a ++ b)) else none
  | .eql => some (.bool (decide (a = b)))
  | .neq => some (.bool (!decide (a = b)))
  | .lss => some (.bool (bytesLess a b))
  | _ => none
-- '==' of values without slices, maps and pointers.
mutual
def pvEq : PV → PV → Option Bool
  | .bool a, .bool b => some (decide (a = b))
  | .int j a, .int k b => if j = k then some (decide (a = b)) else none
  | .str a, .str b => some (decide (a = b))
  | .agg as, .agg bs => pvEqs as bs
  | .arr as, .arr bs => pvEqs as bs
  | _, _ => none
def pvEqs : List PV → List PV → Option Bool
  | [], [] => some true
  | a :: as, b :: bs => match pvEq a b with
    | some true => pvEqs as bs
    | some false => some false
    | none => none
  | _, _ => none
end
def binOp (op : BinOp) (x y : PV) : Option PV :=
  match x, y with
  | .int k a, .int j b => match op with
    | .shl => shiftInt .shl k a b
    | .shr => shiftInt .shr k a b
    | _ => if k = j then binInt op k a b else none
  | .str a, .str b => binStr op a b
  | .nil, .nil => match op with | .eql => some (.bool true) | .neq => some (.bool false) | _ => none
  | .sl n _, .nil => match op with | .eql => some (.bool n) | .neq => some (.bool (!n)) | _ => none
  | .bool a, .bool b => match op with | .eql => some (.bool (decide (a = b))) | .neq => some (.bool (!decide (a = b))) | _ => none
  | .agg a, .agg b => if PV.plains a && PV.plains b then match op with
    | .eql => (match pvEqs a b with | some t => some (.bool t) | none => none)
    | .neq => (match pvEqs a b with | some t => some (.bool (!t)) | none => none)
    | _ => none
    else none
  | .arr a, .arr b => match op with
    | .eql => (match pvEqs a b with | some t => some (.bool t) | none => none)
    | .neq => (match pvEqs a b with | some t => some (.bool (!t)) | none => none)
    | _ => none
  | _, _ => none
/-- '==' with a slice of one's own and nil. -/
def binOpS (st : St) (op : BinOp) (x y : PV) : Option PV :=
  match x, y with
  | .ref r, .nil => match lookR r st.rg with
    | some (.row g) => match op with | .eql => some (.bool g.isNil) | .neq => some (.bool (!g.isNil)) | _ => none
    | _ => none
  | .sub r _ _, .nil => match lookR r st.rg with
    | some (.row g) => match op with | .eql => some (.bool g.isNil) | .neq => some (.bool (!g.isNil)) | _ => none
    | _ => none
  | x, y => binOp op x y
def unOp (op : UnOp) (x : PV) : Option PV :=
  match op, x with
  | .neg, .int k a => some (.int k (k.wrap (0 - a)))
  | .not, .bool b => some (.bool (!b))
  | _, _ => none

/-! ### One operation -/
def evalParts (st : St) : List (Nat × VA) → Option (List (Nat × PV))
  | [] => some []
  | (i, x) :: r => match x.eval st with
    | some v => match evalParts st r with | some l => some ((i, v) :: l) | none => none
    | none => none
def evalArgs (st : St) : List VA → Option (List PV)
  | [] => some []
  | x :: r => match x.eval st with
    | some v => match evalArgs st r with | some l => some (v :: l) | none => none
    | none => none
def PV.live : PV → Bool
  | .undef | .dead => false
  | _ => true
def fill : List PV → List (Nat × PV) → Option (List PV)
  | xs, [] => some xs
  | xs, (i, v) :: r => if v.live then (if i < xs.length then fill (xs.set i v) r else none) else none
def fst2 : List (Nat × PV) → List PV
  | [] => []
  | (_, v) :: r => v :: fst2 r
def zip2 : List (Nat × PV) → List PV → List (Nat × PV)
  | (i, _) :: r, v :: vs => (i, v) :: zip2 r vs
  | _, _ => []
def findKey (k : PV) : List (PV × PV) → Option (Option PV)
  | [] => some none
  | (j, v) :: r => match pvEq k j with
    | some true => some (some v)
    | some false => findKey k r
    | none => none
def putKey (k v : PV) : List (PV × PV) → Option (List (PV × PV))
  | [] => some [(k, v)]
  | (j, u) :: r => match pvEq k j with
    | some true => some ((k, v) :: r)
    | some false => match putKey k v r with | some l => some ((j, u) :: l) | none => none
    | none => none

def maxBytes : Nat := 140737488355328

/-- The value goes into the operation's slot. -/
def St.putS (st : St) (d : Option Nat) (v : PV) : Option St :=
  match d with
  | some d => some { st with sl := put d v st.sl }
  | none => none
/-- A new region, named by the operation's slot. -/
def St.newReg (st : St) (d : Option Nat) (g : Reg) : Option St :=
  match d with
  | some d => match look d st.sl with
    | none => some { st with sl := put d (.ref [0, d]) st.sl, rg := ([0, d], .row g) :: st.rg }
    | some _ => none
  | none => none
def St.newBox (st : St) (d : Option Nat) (v : PV) : Option St :=
  match d with
  | some d => if !v.live then none else match look d st.bx with
    | none => some { st with sl := put d (.ptr d []) st.sl, bx := (d, v) :: st.bx }
    | some _ => none
  | none => none

/-- The regions that a call's arguments lead to, its boxes aside. -/
def St.argRs (st : St) : List PV → Option (List RId)
  | [] => some []
  | .ptr _ _ :: xs => St.argRs st xs
  | .rptr _ :: xs => St.argRs st xs
  | x :: xs => match st.imm x with
    | some (_, l) => match St.argRs st xs with | some m => some (l ++ m) | none => none
    | none => none
/-- Arguments as a call takes them: a pointer to a box of the caller's hands the box over. With them: the regions that go with the boxes; the boxes. -/
def St.outArgs (st : St) : List PV → Option (List PV × List RId × List Nat)
  | [] => some ([], [], [])
  | .ptr b [] :: xs => match look b st.bx with
    | some x => match st.exp x with
      | some (y, l) => match St.outArgs st xs with
        | some (ys, m, bs) => some (.inout y :: ys, l ++ m, b :: bs)
        | none => none
      | none => none
    | none => none
  | .rptr x :: xs => match St.outArgs st xs with
    | some (ys, m, bs) => some (.rptr x :: ys, m, bs)
    | none => none
  | x :: xs => match st.imm x with
    | some (y, _) => match St.outArgs st xs with
      | some (ys, m, bs) => some (y :: ys, m, bs)
      | none => none
    | none => none
def nodupR : List RId → Bool
  | [] => true
  | r :: l => !l.contains r && nodupR l
def nodupN : List Nat → Bool
  | [] => true
  | r :: l => !l.contains r && nodupN l

mutual
def PV.noSl : PV → Bool
  | .sl _ _ => false
  | .map _ => false
  | .agg fs => PV.noSls fs
  | .arr _ => true
  | _ => true
def PV.noSls : List PV → Bool
  | [] => true
  | x :: xs => x.noSl && PV.noSls xs
end

def St.putOuts (st : St) : List Nat → List PV → Option St
  | [], [] => some st
  | b :: bs, x :: xs => match look b st.bx with
    | some _ => St.putOuts { st with bx := put b (imp [1, b] x).1 st.bx, rg := (imp [1, b] x).2 ++ st.rg } bs xs
    | none => none
  | _, _ => none

-- The regions that a value names.
mutual
def ids : PV → List RId
  | .ref r => [r]
  | .sub r _ _ => [r]
  | .mref r => [r]
  | .eptr r _ _ => [r]
  | .agg fs => idss fs
  | _ => []
def idss : List PV → List RId
  | [] => []
  | x :: xs => ids x ++ idss xs
end
/-- Names that go with boxes that are handed over. -/
def badId (ls : List RId) (bs : List Nat) (r : RId) : Bool :=
  ls.contains r || (match r with | 1 :: b :: _ => bs.contains b | _ => false)
def badIds (ls : List RId) (bs : List Nat) : List RId → Bool
  | [] => false
  | r :: l => badId ls bs r || badIds ls bs l
def clean (ls : List RId) (bs : List Nat) : List (Nat × PV) → List (Nat × PV)
  | [] => []
  | (k, v) :: r => if badIds ls bs (ids v) then clean ls bs r else (k, v) :: clean ls bs r
def cleanB (ls : List RId) (bs : List Nat) : List (Nat × PV) → Bool
  | [] => true
  | (k, v) :: r => (bs.contains k || !badIds ls bs (ids v)) && cleanB ls bs r
def cleanR (ls : List RId) (bs : List Nat) : List (RId × RegC) → List (RId × RegC)
  | [] => []
  | (k, v) :: r => if badId ls bs k then cleanR ls bs r else (k, v) :: cleanR ls bs r
/-- Boxes and regions are handed over: nobody of the caller's leads to them any more. -/
def St.shed (st : St) (ls : List RId) (bs : List Nat) : Option St :=
  match bs with
  | [] => some st
  | bs => if cleanB ls bs st.bx then some ⟨clean ls bs st.sl, st.bx, cleanR ls bs st.rg⟩ else none

def toIdx : PV → Option Int
  | .int _ n => some n
  | _ => none
def St.elem (st : St) (x : PV) (i : Nat) : Option PV :=
  match st.content x with | some (_, xs) => xs[i]? | none => none

def bytesOf : List PV → Option (List UInt8)
  | [] => some []
  | .int .u8 n :: r => match bytesOf r with | some l => some (UInt8.ofNat n.toNat :: l) | none => none
  | _ :: _ => none
def pvBytes (l : List UInt8) : List PV := l.map fun c => .int .u8 (c.toNat : Int)

/-- The bounds of 'x[lo:hi]'. -/
def bounds (n cap : Nat) (lo hi : Option PV) : Option (Nat × Nat) :=
  match (match hi with | some v => toIdx v | none => some (n : Int)) with
  | none => none
  | some h => if 0 ≤ h ∧ h ≤ cap then
      match (match lo with | some v => toIdx v | none => some 0) with
      | none => none
      | some l => if 0 ≤ l ∧ l ≤ h then some (l.toNat, h.toNat) else none
    else none
def optEval (st : St) : Option VA → Option (Option PV)
  | none => some none
  | some x => match x.eval st with | some v => some (some v) | none => none

/-- What 'append' appends. -/
def St.news (st : St) (v : PV) : Option (List PV) :=
  match v with
  | .str s => some (pvBytes s)
  | v => match st.content v with | some (_, ys) => some ys | none => none

def step (C : Nat → List PV → Option (PV × List PV)) (st : St) (d : Option Nat) : VO → Option St
  | .move x => match x.eval st with | some v => st.putS d v | none => none
  | .pick c a b => match c.eval st with
    | some (.bool true) => match a.eval st with | some v => st.putS d v | none => none
    | some (.bool false) => match b.eval st with | some v => st.putS d v | none => none
    | _ => none
  | .alloc td => st.newBox d td.zero
  | .box _ x => match x.eval st with | some v => st.newBox d v | none => none
  | .build td parts => match evalParts st parts with
    | some l => match td with
      | .struct fs => match fill (TD.zeros fs) l with | some r => st.putS d (.agg r) | none => none
      | .arr n e => match st.imms (fst2 l) with
        | some (vs, rs) => match fill (List.replicate n e.izero) (zip2 l vs) with
          | some r => (st.freeze rs).putS d (.arr r)
          | none => none
        | none => none
      | _ => none
    | none => none
  | .buildSlice e len parts => match evalParts st parts with
    | some l => match st.imms (fst2 l) with
      | some (vs, rs) => match fill (List.replicate len e.izero) (zip2 l vs) with
        | some r => (st.freeze rs).newReg d ⟨false, false, r⟩
        | none => none
      | none => none
    | none => none
  | .load x => match x.eval st with
    | some (.ptr b p) => match look b st.bx with
      | some v => match getAt v p with | some u => st.putS d u | none => none
      | none => none
    | some (.eptr r i p) => match lookR r st.rg with
      | some (.row g) => match g.xs[i]? with
        | some v => match getAt v p with | some u => st.putS d u | none => none
        | none => none
      | _ => none
    | some (.rptr v) => st.putS d v
    | _ => none
  | .store x y => match x.eval st, y.eval st with
    | some (.ptr b p), some u => if !u.live then none else match look b st.bx with
      | some v => match setAt v p u with | some v' => some { st with bx := put b v' st.bx } | none => none
      | none => none
    | some (.eptr r i p), some u => match st.imm u with
      | some (u', rs) => match lookR r (st.freeze rs).rg with
        | some (.row g) => if g.frozen then none else match g.xs[i]? with
          | some v => match setAt v p u' with
            | some v' => some { st.freeze rs with rg := putR r (.row { g with xs := g.xs.set i v' }) (st.freeze rs).rg }
            | none => none
          | none => none
        | _ => none
      | none => none
    | _, _ => none
  | .nilCheck x => match x.eval st with
    | some (.ptr b p) => st.putS d (.ptr b p)
    | some (.eptr r i p) => st.putS d (.eptr r i p)
    | some (.rptr v) => st.putS d (.rptr v)
    | _ => none
  | .bin op x y => match x.eval st, y.eval st with
    | some u, some v => match binOpS st op u v with | some r => st.putS d r | none => none
    | _, _ => none
  | .un op x => match x.eval st with
    | some u => match unOp op u with | some r => st.putS d r | none => none
    | none => none
  | .convInt k x => match x.eval st with
    | some (.int _ n) => st.putS d (.int k (k.wrap n))
    | _ => none
  | .convBytes x => match x.eval st with
    | some (.str s) => st.putS d (.sl false (pvBytes s))
    | _ => none
  | .convStr x => match x.eval st with
    | some u => match st.content u with
      | some (_, xs) => match bytesOf xs with | some l => st.putS d (.str l) | none => none
      | none => none
    | none => none
  | .makeSlice e bytes l c => match l.eval st, c.eval st with
    | some (.int _ l), some (.int _ c) => if 0 ≤ l ∧ l ≤ c ∧ (bytes : Int) * c ≤ maxBytes ∧ c ≤ 9223372036854775807 then st.newReg d ⟨false, false, List.replicate l.toNat e.izero⟩ else none
    | _, _ => none
  | .slice x lo hi => match x.eval st, optEval st lo, optEval st hi with
    | some (.str s), some lo, some hi => match bounds s.length s.length lo hi with
      | some (l, h) => st.putS d (.str ((s.drop l).take (h - l)))
      | none => none
    | some .nil, some lo, some hi => match bounds 0 0 lo hi with
      | some (_, _) => st.putS d .nil
      | none => none
    | some (.sl n xs), some lo, some hi => match bounds xs.length xs.length lo hi with
      | some (l, h) => st.putS d (.sl n ((xs.drop l).take (h - l)))
      | none => none
    | some (.ref r), some lo, some hi => match lookR r st.rg with
      | some (.row g) => match bounds g.xs.length g.xs.length lo hi with
        | some (l, h) => st.putS d (.sub r l h)
        | none => none
      | _ => none
    | some (.sub r a b), some lo, some hi => match bounds (b - a) (b - a) lo hi with
      | some (l, h) => st.putS d (.sub r (a + l) (a + h))
      | none => none
    | _, _, _ => none
  | .fieldAddr x f => match x.eval st with
    | some (.ptr b p) => st.putS d (.ptr b (p ++ [f]))
    | some (.eptr r i p) => st.putS d (.eptr r i (p ++ [f]))
    | some (.rptr (.agg fs)) => match fs[f]? with | some v => st.putS d (.rptr v) | none => none
    | _ => none
  | .field x f => match x.eval st with
    | some (.agg fs) => match fs[f]? with | some v => st.putS d v | none => none
    | _ => none
  | .indexAddr x i => match x.eval st, i.eval st with
    | some u, some (.int _ i) => if 0 ≤ i then
        match u with
        | .ptr b p => match (match look b st.bx with | some v => getAt v p | none => none) with
          | some (.arr xs) => if i < xs.length then st.putS d (.ptr b (p ++ [i.toNat])) else none
          | _ => none
        | .eptr r j p => match (match lookR r st.rg with | some (.row g) => (match g.xs[j]? with | some v => getAt v p | none => none) | _ => none) with
          | some (.arr xs) => if i < xs.length then st.putS d (.eptr r j (p ++ [i.toNat])) else none
          | _ => none
        | .rptr (.arr xs) => match xs[i.toNat]? with | some v => st.putS d (.rptr v) | none => none
        | .sl _ xs => match xs[i.toNat]? with | some v => st.putS d (.rptr v) | none => none
        | .ref r => match lookR r st.rg with
          | some (.row g) => if i < g.xs.length then st.putS d (.eptr r i.toNat []) else none
          | _ => none
        | .sub r a b => match lookR r st.rg with
          | some (.row g) => if i < (b : Int) - a ∧ b ≤ g.xs.length then st.putS d (.eptr r (a + i.toNat) []) else none
          | _ => none
        | _ => none
      else none
    | _, _ => none
  | .index x i => match x.eval st, i.eval st with
    | some (.str s), some (.int _ i) => if 0 ≤ i then match s[i.toNat]? with | some c => st.putS d (.int .u8 (c.toNat : Int)) | none => none else none
    | some (.arr xs), some (.int _ i) => if 0 ≤ i then match xs[i.toNat]? with | some v => st.putS d v | none => none else none
    | _, _ => none
  | .extract x i => match x.eval st with
    | some (.agg fs) => match fs[i]? with | some v => st.putS d v | none => none
    | _ => none
  | .makeMap => match d with
    | some d => match look d st.sl with
      | none => some { st with sl := put d (.mref [0, d]) st.sl, rg := ([0, d], .mp false []) :: st.rg }
      | some _ => none
    | none => none
  | .lookup e x k ok => match x.eval st, k.eval st with
    | some m, some k => if k.plain then match st.entries m with
      | some es => match findKey k es with
        | some (some v) => st.putS d (if ok then .agg [v, .bool true] else v)
        | some none => st.putS d (if ok then .agg [e.izero, .bool false] else e.izero)
        | none => none
      | none => none
      else none
    | _, _ => none
  | .mapUpdate x k v => match x.eval st, k.eval st, v.eval st with
    | some (.mref r), some k, some v => if k.plain then match st.imm v with
      | some (v', rs) => match lookR r (st.freeze rs).rg with
        | some (.mp fz es) => if fz then none else match findKey k es with
          | some _ => match putKey k v' es with
            | some es' => some { st.freeze rs with rg := putR r (.mp false es') (st.freeze rs).rg }
            | none => none
          | none => none
        | _ => none
      | none => none
      else none
    | _, _, _ => none
  | .call f args res => match evalArgs st args with
    | some vs => match st.argRs vs with
      | some rs => match (st.freeze rs).outArgs vs with
        | some (ps, _, bs) => if bs.isEmpty then match C f ps with
          | some (r, _) =>
            let st1 := if res.mild && r.noSl then st else st.freeze rs
            match d with
            | some d => match look d st1.sl with
              | none => some { st1 with sl := put d (imp [0, d] r).1 st1.sl, rg := (imp [0, d] r).2 ++ st1.rg }
              | some _ => none
            | none => some st1
          | none => none
          else none
        | none => none
      | none => none
    | none => none
  | .len x => match x.eval st with
    | some (.str s) => st.putS d (.int .i64 s.length)
    | some (.arr xs) => st.putS d (.int .i64 xs.length)
    | some (.map es) => st.putS d (.int .i64 es.length)
    | some (.mref r) => match lookR r st.rg with | some (.mp _ es) => st.putS d (.int .i64 es.length) | _ => none
    | some u => match st.content u with | some (_, xs) => st.putS d (.int .i64 xs.length) | none => none
    | none => none
  | .append bytes x y => match x.eval st, y.eval st with
    | some u, some v => match st.news v with
      | some ys => match u with
        | .nil => if ys.length * bytes ≤ maxBytes then st.newReg d ⟨ys.isEmpty, false, ys⟩ else none
        | .sl true [] => if ys.length * bytes ≤ maxBytes then st.newReg d ⟨ys.isEmpty, false, ys⟩ else none
        | .ref r => match lookR r st.rg with
          | some (.row g) => if !g.frozen ∧ (g.xs.length + ys.length) * bytes ≤ maxBytes then
              ({ st with rg := dropR r st.rg }).newReg d ⟨g.isNil && ys.isEmpty, false, g.xs ++ ys⟩ else none
          | _ => none
        | .sub r lo hi => match lookR r st.rg with
          | some (.row g) => if !g.frozen ∧ lo ≤ hi ∧ hi ≤ g.xs.length ∧ ((hi - lo) + ys.length) * bytes ≤ maxBytes then
              ({ st with rg := dropR r st.rg }).newReg d ⟨g.isNil && ys.isEmpty, false, (g.xs.drop lo).take (hi - lo) ++ ys⟩ else none
          | _ => none
        | _ => none
      | none => none
    | _, _ => none
  | .minmax isMax x y => match x.eval st, y.eval st with
    | some (.int k a), some (.int j b) => if k = j then st.putS d (.int k (if isMax then max a b else min a b)) else none
    | _, _ => none

def wantedV (st : St) : Option (Nat × Bool) → Option Bool
  | none => some true
  | some (s, want) => match look s st.sl with
    | some (.bool b) => some (b == want)
    | some .undef => some false
    | _ => none
def runOps (C : Nat → List PV → Option (PV × List PV)) : List VOp → St → Option St
  | [], st => some st
  | o :: r, st => match wantedV st o.guard with
    | some true => match step C st o.dst o.op with
      | some st' => runOps C r st'
      | none => none
    | some false => match o.dst with
      | some d => runOps C r { st with sl := put d .undef st.sl }
      | none => runOps C r st
    | none => none

/-! ### The end of a region: what is kept, under names that tell where it lies -/
structure Nm where
  m : List (RId × Option RId)
  rg : List (RId × RegC)
mutual
def nmV (rg : List (RId × RegC)) (bs : List Nat) (pl : RId) (a : Nm) : PV → PV × Nm
  | .ref r => match lookR r a.m with
    | some (some q) => (.ref q, a)
    | some none => (.dead, a)
    | none => match lookR r rg with
      | some (.row g) => if g.frozen then (.sl g.isNil g.xs, a) else (.ref pl, ⟨(r, some pl) :: a.m, (pl, .row g) :: a.rg⟩)
      | _ => (.dead, a)
  | .sub r lo hi => match lookR r a.m with
    | some (some q) => (.sub q lo hi, a)
    | some none => (.dead, a)
    | none => match lookR r rg with
      | some (.row g) => if lo ≤ hi ∧ hi ≤ g.xs.length then
          (if g.frozen then (.sl g.isNil ((g.xs.drop lo).take (hi - lo)), a)
          else (.ref pl, ⟨(r, none) :: a.m, (pl, .row { g with xs := (g.xs.drop lo).take (hi - lo) }) :: a.rg⟩)) else (.dead, a)
      | _ => (.dead, a)
  | .mref r => match lookR r a.m with
    | some (some q) => (.mref q, a)
    | some none => (.dead, a)
    | none => match lookR r rg with
      | some (.mp fz es) => if fz then (.map es, a) else (.mref pl, ⟨(r, some pl) :: a.m, (pl, .mp fz es) :: a.rg⟩)
      | _ => (.dead, a)
  | .nil => (.ref pl, ⟨a.m, (pl, .row ⟨true, false, []⟩) :: a.rg⟩)
  | .agg fs => (.agg (nmVs rg bs pl 0 a fs).1, (nmVs rg bs pl 0 a fs).2)
  | .ptr b p => if bs.contains b then (.ptr b p, a) else (.dead, a)
  | .eptr _ _ _ => (.dead, a)
  | x => (x, a)
def nmVs (rg : List (RId × RegC)) (bs : List Nat) (pl : RId) (i : Nat) (a : Nm) : List PV → List PV × Nm
  | [] => ([], a)
  | x :: xs => ((nmV rg bs (pl ++ [i]) a x).1 :: (nmVs rg bs pl (i + 1) (nmV rg bs (pl ++ [i]) a x).2 xs).1, (nmVs rg bs pl (i + 1) (nmV rg bs (pl ++ [i]) a x).2 xs).2)
end
def nmL (rg : List (RId × RegC)) (bs : List Nat) (tag : Nat) (a : Nm) : List (Nat × PV) → List (Nat × PV) × Nm
  | [] => ([], a)
  | (k, v) :: r => ((k, (nmV rg bs [tag, k] a v).1) :: (nmL rg bs tag (nmV rg bs [tag, k] a v).2 r).1, (nmL rg bs tag (nmV rg bs [tag, k] a v).2 r).2)
def pickL {α : Type} (l : List (Nat × α)) : List Nat → List (Nat × α)
  | [] => []
  | k :: r => match look k l with | some v => (k, v) :: pickL l r | none => pickL l r
def keysL {α : Type} : List (Nat × α) → List Nat
  | [] => []
  | (k, _) :: r => k :: keysL r
def norm (K : List Nat) (st : St) : St :=
  let s := pickL st.sl K
  let b := pickL st.bx K
  let bs := keysL b
  let x := nmL st.rg bs 0 ⟨[], []⟩ s
  let y := nmL st.rg bs 1 x.2 b
  ⟨x.1, y.1, y.2.rg⟩

inductive Ex where
  | normal
  | exit (id : Nat)
  | ret
  deriving Inhabited
def loopN : Nat → (St → Option (Ex × St)) → St → Option (Ex × St)
  | 0, _, _ => none
  | n + 1, f, st => match f st with
    | some (.normal, st') => loopN n f st'
    | r => r
def exec (C : Nat → List PV → Option (PV × List PV)) (n : Nat) : VCode → St → Option (Ex × St)
  | .skip, st => some (.normal, st)
  | .region _ ops K, st => match runOps C ops st with | some st' => some (.normal, norm K st') | none => none
  | .seq a b, st => match exec C n a st with
    | some (.normal, st') => exec C n b st'
    | r => r
  | .cond c a b, st => match c.eval st with
    | some (.bool true) => exec C n a st
    | some (.bool false) => exec C n b st
    | _ => none
  | .block id c, st => match exec C n c st with
    | some (.exit j, st') => if j = id then some (.normal, st') else some (.exit j, st')
    | r => r
  | .loop K c, st => loopN n (fun s => exec C n c (norm K s)) st
  | .exit id, st => some (.exit id, st)
  | .ret, st => some (.ret, st)

def enterA (i : Nat) : List PV → St
  | [] => ⟨[], [], []⟩
  | .inout y :: r => ⟨(i, .ptr i []) :: (enterA (i + 1) r).sl, (i, (imp [1, i] y).1) :: (enterA (i + 1) r).bx, (imp [1, i] y).2 ++ (enterA (i + 1) r).rg⟩
  | x :: r => ⟨(i, x) :: (enterA (i + 1) r).sl, (enterA (i + 1) r).bx, (enterA (i + 1) r).rg⟩
def inouts (i : Nat) : List PV → List Nat
  | [] => []
  | .inout _ :: r => i :: inouts (i + 1) r
  | _ :: r => inouts (i + 1) r
def resV (st : St) : List VRes → Option (List PV)
  | [] => some []
  | .slot k :: r => match look k st.sl with
    | some v => match resV st r with | some l => some (v :: l) | none => none
    | none => none
  | .cell k :: r => match look k st.sl with
    | some (.ptr b p) => match look b st.bx with
      | some v => match getAt v p with
        | some u => match resV st r with | some l => some (u :: l) | none => none
        | none => none
      | none => none
    | _ => none
def boxV (st : St) : List Nat → Option (List PV)
  | [] => some []
  | b :: r => match look b st.bx with
    | some v => match boxV st r with | some l => some (v :: l) | none => none
    | none => none
def packR : List PV → PV
  | [v] => v
  | l => .agg l
def finish (vf : VF) (args : List PV) (st : St) : Option (PV × List PV) :=
  match resV st vf.res with
  | some vs => match boxV st (inouts 0 args) with
    | some bs => match st.exps vs with
      | some (us, l) => match st.exps bs with
        | some (cs, m) => if nodupR (l ++ m) then some (packR us, cs) else none
        | none => none
      | none => none
    | none => none
  | none => none

inductive VFn where
  | code (v : VF)
  | ext (params : List TD) (ret : TD) (g : List PV → Option PV)
  deriving Inhabited

def callF (prog : Nat → Option VFn) : Nat → Nat → List PV → Option (PV × List PV)
  | 0, _, _ => none
  | n + 1, f, args => match prog f with
    | some (.code vf) => match exec (callF prog n) n vf.body (enterA 0 args) with
      | some (.ret, st) => finish vf args st
      | some (.normal, st) => finish vf args st
      | _ => none
    | some (.ext _ _ g) => match g args with | some r => some (r, []) | none => none
    | none => none
end Go.Vm
end
section
namespace Go.Vm

def CellsAt (w : World) (a : Addr) (cs : List Value) : Prop := ∀ j v, cs[j]? = some v → w.cell? (a.add j) = some v

/-! ### Values that nobody writes -/
mutual
inductive RC (w : World) (X : Nat → Prop) : TD → List Value → PV → Prop
  | bool (b : Bool) : RC w X .bool [.bool b] (.bool b)
  | int (k : IntKind) (n : Int) : RC w X (.int k) [.int k n] (.int k n)
  | str (l : List UInt8) : RC w X .str [.string ⟨l.toArray⟩] (.str l)
  | struct {fs : List TD} {cs : List Value} {ps : List PV} (h : RCs w X fs cs ps) : RC w X (.struct fs) cs (.agg ps)
  | arr {n : Nat} {e : TD} {cs : List Value} {xs : List PV} (hn : xs.length = n) (h : RCa w X e cs xs) : RC w X (.arr n e) cs (.arr xs)
  | slnil {e : TD} : RC w X (.slice e) [.slice none 0 0] (.sl true [])
  | sl {e : TD} {a : Addr} {len cap : Nat} {xs : List PV} (hX : 0 < xs.length → ¬ X a.block ∧ a.block < w.heap.size) (hl : xs.length = len) (hc : len ≤ cap)
      (cf : Nat → List Value) (hcf : ∀ i, i < xs.length → CellsAt w (a.add (i * e.size)) (cf i))
      (h : ∀ (i : Nat) (x : PV), xs[i]? = some x → RC w X e (cf i) x) : RC w X (.slice e) [.slice (some a) len cap] (.sl false xs)
  | mapnil {k e : TD} : RC w X (.map k e) [.map none] .nilp
  | map {k e : TD} {r : Nat} {es : Array MapEntry} {clock : Nat} {ps : List (PV × PV)} (hX : ¬ X r ∧ r < w.heap.size) (hr : w.heap[r]? = some (.map es clock))
      (h : RCm w X k e es.toList ps) : RC w X (.map k e) [.map (some r)] (.map ps)
  | fn (f : Nat) : RC w X .func [.func (.func f) #[] #[]] (.fn f)
  | nilfn : RC w X .func [.nilFunc] .nilp
  | nilptr {e : TD} : RC w X (.ptr e) [.pointer none] .nilp
inductive RCs (w : World) (X : Nat → Prop) : List TD → List Value → List PV → Prop
  | nil : RCs w X [] [] []
  | cons {t : TD} {ts : List TD} {cs ds : List Value} {p : PV} {ps : List PV} (h : RC w X t cs p) (hs : RCs w X ts ds ps) : RCs w X (t :: ts) (cs ++ ds) (p :: ps)
inductive RCa (w : World) (X : Nat → Prop) : TD → List Value → List PV → Prop
  | nil {e : TD} : RCa w X e [] []
  | cons {e : TD} {cs ds : List Value} {p : PV} {ps : List PV} (h : RC w X e cs p) (hs : RCa w X e ds ps) : RCa w X e (cs ++ ds) (p :: ps)
inductive RCm (w : World) (X : Nat → Prop) : TD → TD → List MapEntry → List (PV × PV) → Prop
  | nil {k e : TD} : RCm w X k e [] []
  | cons {k e : TD} {m : MapEntry} {ms : List MapEntry} {p q : PV} {ps : List (PV × PV)} {ks cs : List Value} (hk : RC w X k ks p) (hv : RC w X e cs q)
      (hm : RCm w X k e ms ps) (hkf : m.key = k.valOf ks) (hvf : m.val = e.valOf cs) : RCm w X k e (m :: ms) ((p, q) :: ps)
end

/-- What is said of memory that may turn: outside of X nothing has; of what there was, no more is X. -/
structure Keeps (w w' : World) (X X' : Nat → Prop) : Prop where
  size : w.heap.size ≤ w'.heap.size
  block : ∀ b, ¬ X b → b < w.heap.size → w'.heap[b]? = w.heap[b]?
  less : ∀ b, b < w.heap.size → X' b → X b

theorem add_block (a : Addr) (n : Nat) : (a.add n).block = a.block := by unfold Addr.add; split <;> rfl
theorem add_add (a : Addr) (m n : Nat) : (a.add m).add n = a.add (m + n) := by
  unfold Addr.add
  by_cases hm : m = 0
  · subst hm; simp
  · by_cases hn : n = 0
    · subst hn; simp [hm]
    · rw [if_neg hm, if_neg hn, if_neg (by omega)]
      simp [Nat.add_assoc]

theorem CellsAt.keeps {w w' : World} {a : Addr} {cs : List Value} (h : CellsAt w a cs) (hb : w'.heap[a.block]? = w.heap[a.block]?) : CellsAt w' a cs := by
  intro j v hj
  rw [World.cell?_of_block (w := w) (by rw [add_block]; exact hb)]
  exact h j v hj

mutual
theorem RC.keeps {w w' : World} {X X' : Nat → Prop} (hk : Keeps w w' X X') : ∀ {td : TD} {cs : List Value} {p : PV}, RC w X td cs p → RC w' X' td cs p
  | _, _, _, .bool b => .bool b
  | _, _, _, .int k n => .int k n
  | _, _, _, .str l => .str l
  | _, _, _, .struct h => .struct (RCs.keeps hk h)
  | _, _, _, .arr hn h => .arr hn (RCa.keeps hk h)
  | _, _, _, .slnil => .slnil
  | _, _, _, .sl hX hl hc cf hcf h => .sl (fun h0 => ⟨fun hx => (hX h0).1 (hk.less _ (hX h0).2 hx), Nat.lt_of_lt_of_le (hX h0).2 hk.size⟩) hl hc cf
      (fun i hi => by
        have h0 := hX (by omega)
        refine (hcf i hi).keeps ?_
        rw [add_block]
        exact hk.block _ h0.1 h0.2)
      (fun i x hx => RC.keeps hk (h i x hx))
  | _, _, _, .mapnil => .mapnil
  | _, _, _, .map hX hr h => .map ⟨fun hx => hX.1 (hk.less _ hX.2 hx), Nat.lt_of_lt_of_le hX.2 hk.size⟩ ((hk.block _ hX.1 hX.2).trans hr) (RCm.keeps hk h)
  | _, _, _, .fn f => .fn f
  | _, _, _, .nilfn => .nilfn
  | _, _, _, .nilptr => .nilptr
theorem RCs.keeps {w w' : World} {X X' : Nat → Prop} (hk : Keeps w w' X X') : ∀ {ts : List TD} {cs : List Value} {ps : List PV}, RCs w X ts cs ps → RCs w' X' ts cs ps
  | _, _, _, .nil => .nil
  | _, _, _, .cons h hs => .cons (RC.keeps hk h) (RCs.keeps hk hs)
theorem RCa.keeps {w w' : World} {X X' : Nat → Prop} (hk : Keeps w w' X X') : ∀ {e : TD} {cs : List Value} {ps : List PV}, RCa w X e cs ps → RCa w' X' e cs ps
  | _, _, _, .nil => .nil
  | _, _, _, .cons h hs => .cons (RC.keeps hk h) (RCa.keeps hk hs)
theorem RCm.keeps {w w' : World} {X X' : Nat → Prop} (hk : Keeps w w' X X') : ∀ {k e : TD} {ms : List MapEntry} {ps : List (PV × PV)}, RCm w X k e ms ps → RCm w' X' k e ms ps
  | _, _, _, _, .nil => .nil
  | _, _, _, _, .cons h hv hm hkf hvf => .cons (RC.keeps hk h) (RC.keeps hk hv) (RCm.keeps hk hm) hkf hvf
end

mutual
theorem RC.length {w : World} {X : Nat → Prop} : ∀ {td : TD} {cs : List Value} {p : PV}, RC w X td cs p → cs.length = td.size
  | _, _, _, .bool b => rfl
  | _, _, _, .int k n => rfl
  | _, _, _, .str l => rfl
  | _, _, _, .struct h => RCs.length h
  | _, _, _, .arr hn h => by rw [TD.size, ← hn]; exact RCa.length h
  | _, _, _, .slnil => rfl
  | _, _, _, .sl .. => rfl
  | _, _, _, .mapnil => rfl
  | _, _, _, .map .. => rfl
  | _, _, _, .fn f => rfl
  | _, _, _, .nilfn => rfl
  | _, _, _, .nilptr => rfl
theorem RCs.length {w : World} {X : Nat → Prop} : ∀ {ts : List TD} {cs : List Value} {ps : List PV}, RCs w X ts cs ps → cs.length = TD.sizes ts
  | _, _, _, .nil => rfl
  | _, _, _, .cons h hs => by rw [List.length_append, TD.sizes, RC.length h, RCs.length hs]
theorem RCa.length {w : World} {X : Nat → Prop} : ∀ {e : TD} {cs : List Value} {ps : List PV}, RCa w X e cs ps → cs.length = ps.length * e.size
  | _, _, _, .nil => by simp
  | _, _, _, .cons h hs => by rw [List.length_append, List.length_cons, RC.length h, RCa.length hs, Nat.succ_mul]; omega
end

/-! ### Values in flight: they may lead to regions and boxes -/
inductive RB where
  | row (e : TD) (v : Value)
  | mp (k e : TD) (r : Nat)
/-- Where things lie: what is the call's own (X), its regions, its boxes. -/
structure Env where
  X : Nat → Prop
  rb : RId → Option RB
  bb : Nat → Option (TD × Addr)

mutual
inductive RT (w : World) (E : Env) : TD → List Value → PV → Prop
  | imm {td : TD} {cs : List Value} {p : PV} (h : RC w E.X td cs p) : RT w E td cs p
  | struct {fs : List TD} {cs : List Value} {ps : List PV} (h : RTs w E fs cs ps) : RT w E (.struct fs) cs (.agg ps)
  | nil {e : TD} : RT w E (.slice e) [.slice none 0 0] .nil
  | ref {e : TD} {r : RId} {v : Value} (h : E.rb r = some (.row e v)) (h1 : v.oneCell' = true) : RT w E (.slice e) [v] (.ref r)
  | sub {e : TD} {r : RId} {a a' : Addr} {len cap lo hi c : Nat} (h : E.rb r = some (.row e (.slice (some a) len cap))) (h1 : lo ≤ hi) (h2 : hi ≤ len) (h3 : hi - lo ≤ c) (h4 : lo + c ≤ cap)
      (h5 : 0 < c → a' = a.add (lo * e.size)) (h6 : ∃ k, k ≤ lo ∧ a' = a.add (k * e.size)) : RT w E (.slice e) [.slice (some a') (hi - lo) c] (.sub r lo hi)
  | subnil {e : TD} {r : RId} (h : E.rb r = some (.row e (.slice none 0 0))) : RT w E (.slice e) [.slice none 0 0] (.sub r 0 0)
  | mref {k e : TD} {r : RId} {b : Nat} (h : E.rb r = some (.mp k e b)) : RT w E (.map k e) [.map (some b)] (.mref r)
  | ptr {td td0 : TD} {b off : Nat} {a : Addr} {path : List Nat} (h : E.bb b = some (td0, a)) (hp : TD.at td0 path = some (td, off)) : RT w E (.ptr td) [.pointer (some (a.add off))] (.ptr b path)
  | eptr {td e : TD} {r : RId} {a : Addr} {len cap i off : Nat} {path : List Nat} (h : E.rb r = some (.row e (.slice (some a) len cap))) (hi : i < len) (hp : TD.at e path = some (td, off)) :
      RT w E (.ptr td) [.pointer (some (a.add (i * e.size + off)))] (.eptr r i path)
  | rptr {td : TD} {a : Addr} {cs : List Value} {x : PV} (hX : ¬ E.X a.block ∧ a.block < w.heap.size) (hc : CellsAt w a cs) (h : RC w E.X td cs x) : RT w E (.ptr td) [.pointer (some a)] (.rptr x)
  | dead {td : TD} {cs : List Value} (hl : cs.length = td.size) (h1 : ∀ c ∈ cs, c.oneCell' = true) : RT w E td cs .dead
inductive RTs (w : World) (E : Env) : List TD → List Value → List PV → Prop
  | nil : RTs w E [] [] []
  | cons {t : TD} {ts : List TD} {cs ds : List Value} {p : PV} {ps : List PV} (h : RT w E t cs p) (hs : RTs w E ts ds ps) : RTs w E (t :: ts) (cs ++ ds) (p :: ps)
end

-- The boxes that it names.
mutual
def bxs : PV → List Nat
  | .ptr b _ => [b]
  | .agg fs => bxss fs
  | _ => []
def bxss : List PV → List Nat
  | [] => []
  | x :: xs => bxs x ++ bxss xs
end

/-- The places that a value leads to are where they were. -/
structure Moves (E E' : Env) (rs : List RId) (bs : List Nat) : Prop where
  rb : ∀ r ∈ rs, E'.rb r = E.rb r
  bb : ∀ b ∈ bs, E'.bb b = E.bb b

mutual
theorem RT.keeps {w w' : World} {E E' : Env} (hk : Keeps w w' E.X E'.X) : ∀ {td : TD} {cs : List Value} {p : PV}, RT w E td cs p → Moves E E' (ids p) (bxs p) → RT w' E' td cs p
  | _, _, _, .imm h, _ => .imm (h.keeps hk)
  | _, _, _, .struct h, hm => .struct (RTs.keeps hk h hm)
  | _, _, _, .nil, _ => .nil
  | _, _, _, .ref h h1, hm => .ref ((hm.rb _ (by simp [ids])).trans h) h1
  | _, _, _, .sub h h1 h2 h3 h4 h5 h6, hm => .sub ((hm.rb _ (by simp [ids])).trans h) h1 h2 h3 h4 h5 h6
  | _, _, _, .subnil h, hm => .subnil ((hm.rb _ (by simp [ids])).trans h)
  | _, _, _, .mref h, hm => .mref ((hm.rb _ (by simp [ids])).trans h)
  | _, _, _, .ptr h hp, hm => .ptr ((hm.bb _ (by simp [bxs])).trans h) hp
  | _, _, _, .eptr h hi hp, hm => .eptr ((hm.rb _ (by simp [ids])).trans h) hi hp
  | _, _, _, .rptr hX hc h, _ => .rptr ⟨fun hx => hX.1 (hk.less _ hX.2 hx), Nat.lt_of_lt_of_le hX.2 hk.size⟩ (hc.keeps (hk.block _ hX.1 hX.2)) (h.keeps hk)
  | _, _, _, .dead hl h1, _ => .dead hl h1
theorem RTs.keeps {w w' : World} {E E' : Env} (hk : Keeps w w' E.X E'.X) : ∀ {ts : List TD} {cs : List Value} {ps : List PV}, RTs w E ts cs ps → Moves E E' (idss ps) (bxss ps) → RTs w' E' ts cs ps
  | _, _, _, .nil, _ => .nil
  | _, _, _, .cons h hs, hm => .cons (RT.keeps hk h ⟨fun r hr => hm.rb r (by simp [idss, hr]), fun b hb => hm.bb b (by simp [bxss, hb])⟩)
      (RTs.keeps hk hs ⟨fun r hr => hm.rb r (by simp [idss, hr]), fun b hb => hm.bb b (by simp [bxss, hb])⟩)
end
mutual
theorem RT.length {w : World} {E : Env} : ∀ {td : TD} {cs : List Value} {p : PV}, RT w E td cs p → cs.length = td.size
  | _, _, _, .imm h => h.length
  | _, _, _, .struct h => RTs.length h
  | _, _, _, .nil => rfl
  | _, _, _, .ref .. => rfl
  | _, _, _, .sub .. => rfl
  | _, _, _, .subnil .. => rfl
  | _, _, _, .mref .. => rfl
  | _, _, _, .ptr .. => rfl
  | _, _, _, .eptr .. => rfl
  | _, _, _, .rptr .. => rfl
  | _, _, _, .dead hl _ => hl
theorem RTs.length {w : World} {E : Env} : ∀ {ts : List TD} {cs : List Value} {ps : List PV}, RTs w E ts cs ps → cs.length = TD.sizes ts
  | _, _, _, .nil => rfl
  | _, _, _, .cons h hs => by rw [List.length_append, TD.sizes, RT.length h, RTs.length hs]
end

-- A slot's value.
mutual
inductive RV (w : World) (E : Env) : TD → Value → PV → Prop
  | cells {td : TD} {cs : List Value} {p : PV} {v : Value} (h : RT w E td cs p) (hv : v = td.valOf cs) : RV w E td v p
  | tup {ts : List TD} {vs : List Value} {ps : List PV} (h : RVs w E ts vs ps) : RV w E (.tup ts) (.tuple vs.toArray) (.agg ps)
  | undef {td : TD} : RV w E td Go.undef .undef
  | dead {td : TD} {v : Value} : RV w E td v .dead
inductive RVs (w : World) (E : Env) : List TD → List Value → List PV → Prop
  | nil : RVs w E [] [] []
  | cons {t : TD} {ts : List TD} {v : Value} {vs : List Value} {p : PV} {ps : List PV} (h : RV w E t v p) (hs : RVs w E ts vs ps) : RVs w E (t :: ts) (v :: vs) (p :: ps)
end
mutual
theorem RV.keeps {w w' : World} {E E' : Env} (hk : Keeps w w' E.X E'.X) : ∀ {td : TD} {v : Value} {p : PV}, RV w E td v p → Moves E E' (ids p) (bxs p) → RV w' E' td v p
  | _, _, _, .cells h hv, hm => .cells (h.keeps hk hm) hv
  | _, _, _, .tup h, hm => .tup (RVs.keeps hk h hm)
  | _, _, _, .undef, _ => .undef
  | _, _, _, .dead, _ => .dead
theorem RVs.keeps {w w' : World} {E E' : Env} (hk : Keeps w w' E.X E'.X) : ∀ {ts : List TD} {vs : List Value} {ps : List PV}, RVs w E ts vs ps → Moves E E' (idss ps) (bxss ps) → RVs w' E' ts vs ps
  | _, _, _, .nil, _ => .nil
  | _, _, _, .cons h hs, hm => .cons (RV.keeps hk h ⟨fun r hr => hm.rb r (by simp [idss, hr]), fun b hb => hm.bb b (by simp [bxss, hb])⟩)
      (RVs.keeps hk hs ⟨fun r hr => hm.rb r (by simp [idss, hr]), fun b hb => hm.bb b (by simp [bxss, hb])⟩)
end

/-! ### Regions and boxes in memory -/
def CellsIn (cur : Array Value) (off : Nat) (cs : List Value) : Prop := ∀ j v, cs[j]? = some v → cur[off + j]? = some v

/-- A row of the call's own that nobody else leads to. -/
structure RowRep (w : World) (X : Nat → Prop) (e : TD) (a : Addr) (cap : Nat) (xs : List PV) : Prop where
  own : X a.block
  spot : a.spot = none
  le : xs.length ≤ cap
  max : cap ≤ maxLen
  rep : ∃ (cur : Array Value) (et : TypeId), w.heap[a.block]? = some (.cells cur et (0, 0)) ∧ a.off + cap * e.size ≤ cur.size ∧
    ∃ cf : Nat → List Value, (∀ i, i < xs.length → CellsIn cur (a.off + i * e.size) (cf i)) ∧ ∀ (i : Nat) (x : PV), xs[i]? = some x → RC w X e (cf i) x
structure BoxRep (w : World) (E : Env) (td : TD) (a : Addr) (p : PV) : Prop where
  own : E.X a.block
  spot : a.spot = none
  rep : ∃ (cur : Array Value) (et : TypeId) (cs : List Value), w.heap[a.block]? = some (.cells cur et (0, 0)) ∧ CellsIn cur a.off cs ∧ RT w E td cs p
/-- What a region's entry says. -/
def RegRep (w : World) (E : Env) (r : RId) : RegC → Prop
  | .row g => (g.isNil = true ∧ g.xs = [] ∧ ∃ e, E.rb r = some (.row e (.slice none 0 0))) ∨
      (g.isNil = false ∧ ∃ e a cap, E.rb r = some (.row e (.slice (some a) g.xs.length cap)) ∧
        ((g.frozen = false ∧ RowRep w E.X e a cap g.xs) ∨ (g.frozen = true ∧ RC w E.X (.slice e) [.slice (some a) g.xs.length cap] (.sl false g.xs))))
  | .mp fz es => ∃ k e b, E.rb r = some (.mp k e b) ∧
      ((fz = false ∧ E.X b ∧ ∃ ms clock, w.heap[b]? = some (.map ms clock) ∧ RCm w E.X k e ms.toList es) ∨ (fz = true ∧ RC w E.X (.map k e) [.map (some b)] (.map es)))

/-- Which block is whose. -/
inductive Holds (st : St) (E : Env) : (RId ⊕ Nat) → Nat → Prop
  | row {r : RId} {g : Reg} {e : TD} {a : Addr} {len cap : Nat} (h : lookR r st.rg = some (.row g)) (hf : g.frozen = false) (hr : E.rb r = some (.row e (.slice (some a) len cap))) : Holds st E (.inl r) a.block
  | mp {r : RId} {es : List (PV × PV)} {k e : TD} {b : Nat} (h : lookR r st.rg = some (.mp false es)) (hr : E.rb r = some (.mp k e b)) : Holds st E (.inl r) b
  | box {b : Nat} {p : PV} {td : TD} {a : Addr} (h : look b st.bx = some p) (hr : E.bb b = some (td, a)) : Holds st E (.inr b) a.block

/-- A region's name tells which slot or box is there. -/
def OkId (st : St) (r : RId) : Prop :=
  (∃ s p v, r = 0 :: s :: p ∧ look s st.sl = some v) ∨ (∃ b p v, r = 1 :: b :: p ∧ look b st.bx = some v)
structure Named (st : St) : Prop where
  sl : ∀ s v, look s st.sl = some v → (∀ r ∈ ids v, OkId st r) ∧ (∀ b ∈ bxs v, ∃ x, look b st.bx = some x)
  bx : ∀ s v, look s st.bx = some v → (∀ r ∈ ids v, OkId st r) ∧ (∀ b ∈ bxs v, ∃ x, look b st.bx = some x)
  rg : ∀ r g, lookR r st.rg = some g → OkId st r

/-- What has turned since the call began: new blocks, and those that were handed over. -/
structure Since (w0 w : World) (P0 : Nat → Prop) : Prop where
  os : w.os = w0.os
  tape : w.tape = w0.tape
  output : w.output = w0.output
  size : w0.heap.size ≤ w.heap.size
  block : ∀ b, ¬ P0 b → b < w0.heap.size → w.heap[b]? = w0.heap[b]?

/-- A call: its slots' types and number, the world in which it began, what was handed over (P0), what the caller calls its own (X0). -/
structure Fr where
  Γ : Nat → TD
  N : Nat
  w0 : World
  P0 : Nat → Prop
  X0 : Nat → Prop
  np : Nat := 0
  PB : Nat → Option (TD × Addr) := fun _ => none
  hnp : ∀ d, np ≤ d → PB d = none := by intros; rfl

structure Rel (F : Fr) (st : St) (a : Act) (w : World) (E : Env) : Prop where
  defers : a.defers = []
  size : a.tmps.size = F.N
  slots : ∀ s p, look s st.sl = some p → ∃ v, a.tmps[s]? = some v ∧ RV w E (F.Γ s) v p
  boxes : ∀ b p, look b st.bx = some p → ∃ td ad, E.bb b = some (td, ad) ∧ BoxRep w E td ad p
  regs : ∀ r g, lookR r st.rg = some g → RegRep w E r g
  dist : ∀ x y b, Holds st E x b → Holds st E y b → x = y
  named : Named st
  since : Since F.w0 w F.P0
  fresh : ∀ x b, Holds st E x b → F.P0 b ∨ F.w0.heap.size ≤ b
  outer : ∀ b, F.X0 b → b < F.w0.heap.size → ¬ F.P0 b → E.X b
  pbox : ∀ b x y, F.PB b = some x → look b st.bx = some y → E.bb b = some x
end Go.Vm
end
section
set_option linter.unusedSimpArgs false
set_option linter.unusedVariables false
namespace Go.Vm

section
variable {α : Type}
theorem look_put (k j : Nat) (v : α) : ∀ l : List (Nat × α), look j (put k v l) = if k = j then some v else look j l
  | [] => by simp only [put, look]
  | (i, u) :: r => by
    by_cases h : i = k
    · subst h
      simp only [put, if_true, look]
      split <;> rfl
    · simp only [put, if_neg h, look, look_put k j v r]
      by_cases hj : i = j
      · subst hj
        have hk : ¬ k = i := fun e => h e.symm
        simp [hk]
      · simp [hj]
theorem lookR_put (k j : RId) (v : α) : ∀ l : List (RId × α), lookR j (putR k v l) = if k = j then some v else lookR j l
  | [] => by simp only [putR, lookR]
  | (i, u) :: r => by
    by_cases h : i = k
    · subst h
      simp only [putR, if_true, lookR]
      split <;> rfl
    · simp only [putR, if_neg h, lookR, lookR_put k j v r]
      by_cases hj : i = j
      · subst hj
        have hk : ¬ k = i := fun e => h e.symm
        simp [hk]
      · simp [hj]
theorem lookR_drop (k j : RId) : ∀ l : List (RId × α), lookR j (dropR k l) = if k = j then none else lookR j l
  | [] => by simp [dropR, lookR]
  | (i, u) :: r => by
    by_cases h : i = k
    · subst h
      simp only [dropR, if_true, lookR, lookR_drop i j r]
      by_cases hj : i = j <;> simp [hj]
    · simp only [dropR, if_neg h, lookR, lookR_drop k j r]
      by_cases hj : i = j
      · subst hj
        have hk : ¬ k = i := fun e => h e.symm
        simp [hk]
      · simp [hj]
theorem lookR_append (j : RId) : ∀ l m : List (RId × α), lookR j (l ++ m) = (match lookR j l with | some v => some v | none => lookR j m)
  | [], m => by simp [lookR]
  | (i, u) :: r, m => by
    by_cases h : i = j
    · simp [lookR, h]
    · simp only [List.cons_append, lookR, if_neg h, lookR_append j r m]
end

theorem put_get {a : Act} {d : Nat} {v : Value} {s : Nat} (hd : d < a.tmps.size) : (a.put (some d) v).tmps[s]? = if d = s then some v else a.tmps[s]? := by
  simp only [Act.put]
  by_cases h : d = s
  · subst h
    simp [Array.getElem?_setIfInBounds, hd]
  · simp [Array.getElem?_setIfInBounds_ne h, h]
theorem put_size (a : Act) (d : Option Nat) (v : Value) : (a.put d v).tmps.size = a.tmps.size := by cases d <;> simp [Act.put]
theorem put_defers (a : Act) (d : Option Nat) (v : Value) : (a.put d v).defers = a.defers := by cases d <;> rfl

theorem OkId.mono {st st' : St} {r : RId} (h : OkId st r) (hs : ∀ s v, look s st.sl = some v → ∃ v', look s st'.sl = some v') (hb : ∀ s v, look s st.bx = some v → ∃ v', look s st'.bx = some v') : OkId st' r := by
  rcases h with ⟨s, p, v, hr, hv⟩ | ⟨b, p, v, hr, hv⟩
  · obtain ⟨v', h'⟩ := hs s v hv
    exact .inl ⟨s, p, v', hr, h'⟩
  · obtain ⟨v', h'⟩ := hb b v hv
    exact .inr ⟨b, p, v', hr, h'⟩

/-- The value's names are known ones. -/
def Ok (st : St) (v : PV) : Prop := (∀ r ∈ ids v, OkId st r) ∧ (∀ b ∈ bxs v, ∃ x, look b st.bx = some x)

theorem Since.refl (w : World) (P0 : Nat → Prop) : Since w w P0 := ⟨rfl, rfl, rfl, Nat.le_refl _, fun _ _ _ => rfl⟩

variable {F : Fr} {w w' : World} {st st' : St} {a a' : Act} {E E' : Env}

theorem Rel.ok (h : Rel F st a w E) {s : Nat} {p : PV} (hs : look s st.sl = some p) : Ok st p := h.named.sl s p hs

/-- Memory turns, but for what the state speaks of. -/
theorem Rel.extend (h : Rel F st a w E) (hk : Keeps w w' E.X E'.X) (hh : ∀ x b, Holds st E x b → w'.heap[b]? = w.heap[b]? ∧ E'.X b)
    (hrb : ∀ r, OkId st r → E'.rb r = E.rb r) (hbb : ∀ b x, look b st.bx = some x → E'.bb b = E.bb b) (hs : Since F.w0 w' F.P0)
    (hx : ∀ b, F.X0 b → b < F.w0.heap.size → ¬ F.P0 b → E'.X b) : Rel F st a w' E' where
  defers := h.defers
  size := h.size
  slots s p hp := by
    obtain ⟨v, hv, hr⟩ := h.slots s p hp
    exact ⟨v, hv, hr.keeps hk ⟨fun r hr => hrb r ((h.named.sl s p hp).1 r hr), fun b hb => by obtain ⟨x, hx⟩ := (h.named.sl s p hp).2 b hb; exact hbb b x hx⟩⟩
  boxes b p hp := by
    obtain ⟨td, ad, hb, ⟨h1, h2, cur, et, cs, h3, h4, h5⟩⟩ := h.boxes b p hp
    have hH : Holds st E (.inr b) ad.block := .box hp hb
    exact ⟨td, ad, (hbb b p hp).trans hb, (hh _ _ hH).2, h2, cur, et, cs, (hh _ _ hH).1.trans h3, h4,
      h5.keeps hk ⟨fun r hr => hrb r ((h.named.bx b p hp).1 r hr), fun b' hb' => by obtain ⟨x, hx⟩ := (h.named.bx b p hp).2 b' hb'; exact hbb b' x hx⟩⟩
  regs r g hg := by
    have h0 := h.regs r g hg
    have hr := hrb r (h.named.rg r g hg)
    cases g with
    | row g =>
      rcases h0 with ⟨h1, h2, e, h3⟩ | ⟨h1, e, ad, cap, h3, h4⟩
      · exact .inl ⟨h1, h2, e, hr.trans h3⟩
      · refine .inr ⟨h1, e, ad, cap, hr.trans h3, ?_⟩
        rcases h4 with ⟨hf, h5⟩ | ⟨hf, h5⟩
        · have hH : Holds st E (.inl r) ad.block := .row hg hf h3
          obtain ⟨h6, h7, h8, h9, cur, et, h10, h11, cf, h12, h13⟩ := h5
          exact .inl ⟨hf, (hh _ _ hH).2, h7, h8, h9, cur, et, (hh _ _ hH).1.trans h10, h11, cf, h12, fun i x hx => (h13 i x hx).keeps hk⟩
        · exact .inr ⟨hf, h5.keeps hk⟩
    | mp fz es =>
      obtain ⟨k, e, b, h1, h2⟩ := h0
      refine ⟨k, e, b, hr.trans h1, ?_⟩
      rcases h2 with ⟨rfl, h3, ms, clock, h4, h5⟩ | ⟨rfl, h3⟩
      · have hH : Holds st E (.inl r) b := .mp hg h1
        exact .inl ⟨rfl, (hh _ _ hH).2, ms, clock, (hh _ _ hH).1.trans h4, h5.keeps hk⟩
      · exact .inr ⟨rfl, h3.keeps hk⟩
  dist x y b hx hy := by
    have back : ∀ x b, Holds st E' x b → Holds st E x b := by
      intro x b hH
      cases hH with
      | row h1 h2 h3 => exact .row h1 h2 ((hrb _ (h.named.rg _ _ h1)) ▸ h3)
      | mp h1 h2 => exact .mp h1 ((hrb _ (h.named.rg _ _ h1)) ▸ h2)
      | box h1 h2 => exact .box h1 ((hbb _ _ h1) ▸ h2)
    exact h.dist x y b (back _ _ hx) (back _ _ hy)
  named := h.named
  since := hs
  fresh x b hx := by
    have back : ∀ x b, Holds st E' x b → Holds st E x b := by
      intro x b hH
      cases hH with
      | row h1 h2 h3 => exact .row h1 h2 ((hrb _ (h.named.rg _ _ h1)) ▸ h3)
      | mp h1 h2 => exact .mp h1 ((hrb _ (h.named.rg _ _ h1)) ▸ h2)
      | box h1 h2 => exact .box h1 ((hbb _ _ h1) ▸ h2)
    exact h.fresh x b (back _ _ hx)
  outer := hx
  pbox b x y h1 h2 := (hbb b y h2).trans (h.pbox b x y h1 h2)

/-- A value goes into a slot. -/
theorem Rel.putS (h : Rel F st a w E) {d : Nat} {v : Value} {p : PV} (hd : d < F.N) (hv : RV w E (F.Γ d) v p) (ho : Ok { st with sl := put d p st.sl } p) :
    Rel F { st with sl := put d p st.sl } (a.put (some d) v) w E where
  defers := (put_defers _ _ _).trans h.defers
  size := (put_size _ _ _).trans h.size
  slots s q hq := by
    simp only [look_put] at hq
    rw [put_get (by rw [h.size]; exact hd)]
    by_cases e : d = s
    · subst e
      simp only [if_true, Option.some.injEq] at hq ⊢
      subst hq
      exact ⟨v, rfl, hv⟩
    · simp only [if_neg e] at hq ⊢
      exact h.slots s q hq
  boxes := h.boxes
  regs := h.regs
  dist x y b hx hy := by
    have back : ∀ x b, Holds { st with sl := put d p st.sl } E x b → Holds st E x b := by
      intro x b hH
      cases hH with
      | row h1 h2 h3 => exact .row h1 h2 h3
      | mp h1 h2 => exact .mp h1 h2
      | box h1 h2 => exact .box h1 h2
    exact h.dist x y b (back _ _ hx) (back _ _ hy)
  named := by
    have up : ∀ r, OkId st r → OkId { st with sl := put d p st.sl } r := fun r hr => hr.mono
      (fun s v hv => by simp only [look_put]; by_cases e : d = s <;> simp [e, hv]) (fun s v hv => ⟨v, hv⟩)
    refine ⟨fun s q hq => ?_, fun s q hq => ⟨fun r hr => up r ((h.named.bx s q hq).1 r hr), (h.named.bx s q hq).2⟩, fun r g hg => up r (h.named.rg r g hg)⟩
    simp only [look_put] at hq
    by_cases e : d = s
    · subst e
      simp only [if_true, Option.some.injEq] at hq
      subst hq
      exact ⟨ho.1, ho.2⟩
    · simp only [if_neg e] at hq
      exact ⟨fun r hr => up r ((h.named.sl s q hq).1 r hr), (h.named.sl s q hq).2⟩
  since := h.since
  fresh x b hx := by
    have back : ∀ x b, Holds { st with sl := put d p st.sl } E x b → Holds st E x b := by
      intro x b hH
      cases hH with
      | row h1 h2 h3 => exact .row h1 h2 h3
      | mp h1 h2 => exact .mp h1 h2
      | box h1 h2 => exact .box h1 h2
    exact h.fresh x b (back _ _ hx)
  outer := h.outer
  pbox := h.pbox

theorem OkId.put {r : RId} {d : Nat} {p : PV} (h : OkId st r) : OkId { st with sl := Vm.put d p st.sl } r :=
  h.mono (fun s v hv => by simp only [look_put]; by_cases e : d = s <;> simp [e, hv]) (fun s v hv => ⟨v, hv⟩)
theorem Ok.put {q : PV} {d : Nat} {p : PV} (h : Ok st q) : Ok { st with sl := Vm.put d p st.sl } q := ⟨fun r hr => (h.1 r hr).put, h.2⟩

/-- A region more is told of. -/
theorem Rel.addReg (h : Rel F st a w E) {r : RId} {g : RegC} (hn : lookR r st.rg = none) (ho : OkId st r) (hg : RegRep w E r g)
    (hd : ∀ b, Holds { st with rg := (r, g) :: st.rg } E (.inl r) b → (∀ x, ¬ Holds st E x b) ∧ (F.P0 b ∨ F.w0.heap.size ≤ b)) :
    Rel F { st with rg := (r, g) :: st.rg } a w E where
  defers := h.defers
  size := h.size
  slots := h.slots
  boxes := h.boxes
  regs q c hq := by
    simp only [lookR] at hq
    by_cases e : r = q
    · subst e
      simp only [if_true, Option.some.injEq] at hq
      subst hq
      exact hg
    · simp only [if_neg e] at hq
      exact h.regs q c hq
  dist x y b hx hy := by
    have back : ∀ x b, Holds { st with rg := (r, g) :: st.rg } E x b → x = .inl r ∨ Holds st E x b := by
      intro x b hH
      cases hH with
      | row h1 h2 h3 =>
        simp only [lookR] at h1
        split at h1
        · rename_i e; exact .inl (by rw [e])
        · exact .inr (.row h1 h2 h3)
      | mp h1 h2 =>
        simp only [lookR] at h1
        split at h1
        · rename_i e; exact .inl (by rw [e])
        · exact .inr (.mp h1 h2)
      | box h1 h2 => exact .inr (.box h1 h2)
    rcases back _ _ hx with e1 | e1 <;> rcases back _ _ hy with e2 | e2
    · rw [e1, e2]
    · subst e1; exact absurd e2 ((hd b hx).1 y)
    · subst e2; exact absurd e1 ((hd b hy).1 x)
    · exact h.dist x y b e1 e2
  named := by
    have up : ∀ q, OkId st q → OkId { st with rg := (r, g) :: st.rg } q := fun q hq => hq.mono (fun s v hv => ⟨v, hv⟩) (fun s v hv => ⟨v, hv⟩)
    refine ⟨fun s q hq => ⟨fun r hr => up r ((h.named.sl s q hq).1 r hr), (h.named.sl s q hq).2⟩, fun s q hq => ⟨fun r hr => up r ((h.named.bx s q hq).1 r hr), (h.named.bx s q hq).2⟩, fun q c hq => ?_⟩
    simp only [lookR] at hq
    split at hq
    · rename_i e; subst e; exact up _ ho
    · exact up _ (h.named.rg q c hq)
  since := h.since
  fresh x b hx := by
    cases hx with
    | row h1 h2 h3 =>
      simp only [lookR] at h1
      split at h1
      · rename_i e; subst e; injection h1 with h1; subst h1; exact (hd _ (.row (by simp [lookR]) h2 h3)).2
      · exact h.fresh _ _ (.row h1 h2 h3)
    | mp h1 h2 =>
      simp only [lookR] at h1
      split at h1
      · rename_i e; subst e; injection h1 with h1; subst h1; exact (hd _ (.mp (es := ‹List (PV × PV)›) (by simp [lookR]) h2)).2
      · exact h.fresh _ _ (.mp h1 h2)
    | box h1 h2 => exact h.fresh _ _ (.box h1 h2)
  outer := h.outer
  pbox := h.pbox

def Env.setR (E : Env) (r : RId) (b : RB) : Env := { E with rb := fun q => if q = r then some b else E.rb q }
def Env.own (E : Env) (b : Nat) : Env := { E with X := fun c => E.X c ∨ c = b }
def Env.disown (E : Env) (b : Nat) : Env := { E with X := fun c => E.X c ∧ c ≠ b }
def Env.setB (E : Env) (n : Nat) (td : TD) (ad : Addr) : Env := { E with bb := fun q => if q = n then some (td, ad) else E.bb q }

theorem Rel.notOk (h : Rel F st a w E) {d : Nat} (hd : look d st.sl = none) (p : List Nat) : ¬ OkId st (0 :: d :: p) := by
  rintro (⟨s, q, v, e, hv⟩ | ⟨b, q, v, e, hv⟩)
  · injection e with _ e
    injection e with e _
    subst e
    rw [hd] at hv
    cases hv
  · injection e with e _
    cases e
theorem Rel.noReg (h : Rel F st a w E) {d : Nat} (hd : look d st.sl = none) (p : List Nat) : lookR (0 :: d :: p) st.rg = none := by
  cases e : lookR (0 :: d :: p) st.rg with
  | none => rfl
  | some g => exact absurd (h.named.rg _ _ e) (h.notOk hd p)
theorem Rel.held_lt (h : Rel F st a w E) {x : RId ⊕ Nat} {b : Nat} (hH : Holds st E x b) : b < w.heap.size := by
  have lt_of : ∀ {o : Obj}, w.heap[b]? = some o → b < w.heap.size := fun hb => (Array.getElem?_eq_some_iff.1 hb).1
  cases hH with
  | row h1 h2 h3 =>
    rcases h.regs _ _ h1 with ⟨_, _, e, h4⟩ | ⟨_, e, ad, cap, h4, h5⟩
    · rw [h3] at h4; cases h4
    · rw [h3] at h4
      obtain ⟨rfl⟩ : _ = ad := by injection h4 with h4; injection h4 with _ h4; injection h4 with h4; injection h4 
      rcases h5 with ⟨_, h6⟩ | ⟨hf, _⟩
      · obtain ⟨cur, et, h7, _⟩ := h6.rep
        exact lt_of h7
      · rw [h2] at hf; cases hf
  | mp h1 h2 =>
    obtain ⟨k, e, b', h4, h5⟩ := h.regs _ _ h1
    rw [h2] at h4
    injection h4 with h4
    injection h4 with _ _ h4
    subst h4
    rcases h5 with ⟨_, _, ms, clock, h6, _⟩ | ⟨hf, _⟩
    · exact lt_of h6
    · cases hf
  | box h1 h2 =>
    obtain ⟨td, ad, h4, h5⟩ := h.boxes _ _ h1
    rw [h2] at h4
    injection h4 with h4
    injection h4 with _ h4
    subst h4
    obtain ⟨cur, et, cs, h6, _⟩ := h5.rep
    exact lt_of h6
theorem Rel.held_own (h : Rel F st a w E) {x : RId ⊕ Nat} {b : Nat} (hH : Holds st E x b) : E.X b := by
  cases hH with
  | row h1 h2 h3 =>
    rcases h.regs _ _ h1 with ⟨_, _, e, h4⟩ | ⟨_, e, ad, cap, h4, h5⟩
    · rw [h3] at h4; cases h4
    · rw [h3] at h4
      obtain ⟨rfl⟩ : _ = ad := by injection h4 with h4; injection h4 with _ h4; injection h4 with h4; injection h4 
      rcases h5 with ⟨_, h6⟩ | ⟨hf, _⟩
      · exact h6.own
      · rw [h2] at hf; cases hf
  | mp h1 h2 =>
    obtain ⟨k, e, b', h4, h5⟩ := h.regs _ _ h1
    rw [h2] at h4
    injection h4 with h4
    injection h4 with _ _ h4
    subst h4
    rcases h5 with ⟨_, h6, _⟩ | ⟨hf, _⟩
    · exact h6
    · cases hf
  | box h1 h2 =>
    obtain ⟨td, ad, h4, h5⟩ := h.boxes _ _ h1
    rw [h2] at h4
    injection h4 with h4
    injection h4 with _ h4
    subst h4
    exact h5.own

/-- A new row, named by the operation's slot. -/
theorem Rel.newReg (h : Rel F st a w E) {d : Nat} {e : TD} {g : Reg} {v : Value} (hd : look d st.sl = none) (hN : d < F.N) (hΓ : F.Γ d = .slice e) (hf : g.frozen = false)
    (hk : Keeps w w' E.X (fun b => E.X b ∨ ∃ ad len cap, v = .slice (some ad) len cap ∧ b = ad.block)) (hw : ∀ b, b < w.heap.size → w'.heap[b]? = w.heap[b]?) (hs : Since F.w0 w' F.P0)
    (hg : (g.isNil = true ∧ g.xs = [] ∧ v = .slice none 0 0) ∨ (g.isNil = false ∧ ∃ ad cap, v = .slice (some ad) g.xs.length cap ∧ w.heap.size ≤ ad.block ∧
      RowRep w' (fun b => E.X b ∨ ∃ ad len cap, v = .slice (some ad) len cap ∧ b = ad.block) e ad cap g.xs)) :
    ∃ E', Rel F { st with sl := put d (.ref [0, d]) st.sl, rg := ([0, d], .row g) :: st.rg } (a.put (some d) v) w' E' := by
  let X' : Nat → Prop := fun b => E.X b ∨ ∃ ad len cap, v = .slice (some ad) len cap ∧ b = ad.block
  let E' : Env := { X := X', rb := fun q => if q = [0, d] then some (.row e v) else E.rb q, bb := E.bb }
  have hno := h.notOk hd []
  have h1 : Rel F st a w' E' := h.extend hk (fun x b hH => ⟨hw b (h.held_lt hH), .inl (h.held_own hH)⟩)
    (fun r hr => by
      show (if r = [0, d] then _ else _) = _
      rw [if_neg (fun he => hno (by rw [← he]; exact hr))]) (fun _ _ _ => rfl) hs (fun b h1 h2 h3 => .inl (h.outer b h1 h2 h3))
  have hrb : E'.rb [0, d] = some (.row e v) := by show (if _ then _ else _) = _; rw [if_pos rfl]
  have h2 := h1.putS (d := d) (v := v) (p := .ref [0, d]) hN (by rw [hΓ]; exact .cells (.ref hrb (by rcases hg with ⟨_, _, rfl⟩ | ⟨_, _, _, rfl, _⟩ <;> rfl)) rfl)
    ⟨fun r hr => by
      simp only [ids, List.mem_singleton] at hr
      exact .inl ⟨d, [], .ref [0, d], hr, by simp [look_put]⟩, fun b hb => by simp [bxs] at hb⟩
  have h3 := h2.addReg (r := [0, d]) (g := .row g) (h1.noReg hd []) (.inl ⟨d, [], .ref [0, d], rfl, by simp [look_put]⟩)
    (by
      rcases hg with ⟨g1, g2, rfl⟩ | ⟨g1, ad, cap, rfl, g3, g4⟩
      · exact .inl ⟨g1, g2, e, hrb⟩
      · exact .inr ⟨g1, e, ad, cap, hrb, .inl ⟨hf, g4⟩⟩)
    (by
      intro b hH
      have hb : w.heap.size ≤ b := by
        cases hH with
        | row k1 k2 k3 =>
          rcases hg with ⟨g1, g2, rfl⟩ | ⟨g1, ad, cap, rfl, g3, g4⟩
          · rw [hrb] at k3; cases k3
          · rw [hrb] at k3
            injection k3 with k3
            injection k3 with _ k3
            injection k3 with k3
            injection k3 with k3
            subst k3
            exact g3
        | mp k1 k2 => rw [hrb] at k2; cases k2
      refine ⟨fun x hx => ?_, .inr (Nat.le_trans h.since.size hb)⟩
      have hlt : b < w.heap.size := by
        have hx' : Holds st E x b := by
          cases hx with
          | row k1 k2 k3 => exact .row k1 k2 (by have := h.named.rg _ _ k1; have hne : ¬ _ = [0, d] := fun he => hno (by rw [← he]; exact this); simpa only [E', if_neg hne] using k3)
          | mp k1 k2 => exact .mp k1 (by have := h.named.rg _ _ k1; have hne : ¬ _ = [0, d] := fun he => hno (by rw [← he]; exact this); simpa only [E', if_neg hne] using k2)
          | box k1 k2 => exact .box k1 k2
        exact h.held_lt hx'
      omega)
  exact ⟨E', h3⟩
end Go.Vm
end
section
set_option linter.unusedSimpArgs false
set_option linter.unusedVariables false
namespace Go.Vm

mutual
def TD.zcells : TD → List Value
  | .bool => [.bool false]
  | .int k => [.int k 0]
  | .str => [.string ⟨#[]⟩]
  | .slice _ => [.slice none 0 0]
  | .struct fs => TD.zcellss fs
  | .arr n e => (List.replicate n e.zcells).flatten
  | .ptr _ => [.pointer none]
  | .map _ _ => [.map none]
  | .func => [.nilFunc]
  | .tup _ => []
def TD.zcellss : List TD → List Value
  | [] => []
  | t :: ts => t.zcells ++ TD.zcellss ts
end

def veq : Value → Value → Bool
  | .bool a, .bool b => decide (a = b)
  | .int j a, .int k b => decide (j = k) && decide (a = b)
  | .string a, .string b => decide (a.data.toList = b.data.toList)
  | .slice none a b, .slice none c d => decide (a = c) && decide (b = d)
  | .pointer none, .pointer none => true
  | .map none, .map none => true
  | .nilFunc, .nilFunc => true
  | _, _ => false
def veqs : List Value → List Value → Bool
  | [], [] => true
  | a :: as, b :: bs => veq a b && veqs as bs
  | _, _ => false
theorem veq_eq {a b : Value} (h : veq a b = true) : a = b := by
  unfold veq at h
  split at h <;> simp_all
  rename_i a b
  rcases a with ⟨a⟩
  rcases b with ⟨b⟩
  exact congrArg ByteArray.mk h
theorem veqs_eq : ∀ {as bs : List Value}, veqs as bs = true → as = bs
  | [], [], _ => rfl
  | a :: as, b :: bs, h => by
    simp only [veqs, Bool.and_eq_true] at h
    rw [veq_eq h.1, veqs_eq h.2]
  | [], _ :: _, h => by simp [veqs] at h
  | _ :: _, [], h => by simp [veqs] at h

def chkInfo (P : Program) (td : TD) (t : TypeId) : Bool :=
  match P.info? t with
  | some i => decide (i.size = td.size) && (match i.zero with
    | some (.agg cs) => td.isAgg && veqs cs.toList td.zcells
    | some v => !td.isAgg && veqs [v] td.zcells
    | none => false)
  | none => false

mutual
def chkTD (P : Program) : TD → TypeId → Bool
  | .bool, t => (match P.underlying t with | some .bool => true | _ => false) && chkInfo P .bool t
  | .int k, t => (match P.underlying t with | some (.int j) => decide (j = k) | _ => false) && chkInfo P (.int k) t
  | .str, t => (match P.underlying t with | some .string => true | _ => false) && chkInfo P .str t
  | .slice e, t => (match P.underlying t with | some (.slice te) => chkTD P e te | _ => false) && chkInfo P (.slice e) t
  | .struct fs, t => (match P.underlying t with | some (.struct fields) => chkFs P fs 0 fields.toList | _ => false) && chkInfo P (.struct fs) t
  | .arr n e, t => (match P.underlying t with | some (.array m te) => decide (m = n) && chkTD P e te | _ => false) && chkInfo P (.arr n e) t
  | .ptr e, t => (match P.underlying t with | some (.pointer te) => chkTD P e te | _ => false) && chkInfo P (.ptr e) t
  | .map k e, t => (match P.underlying t with | some (.map tk te) => chkTD P k tk && chkTD P e te | _ => false) && chkInfo P (.map k e) t
  | .func, t => (match P.underlying t with | some (.func _ _ _) => true | _ => false) && chkInfo P .func t
  | .tup _, _ => false
def chkFs (P : Program) : List TD → Nat → List Field → Bool
  | [], _, [] => true
  | t :: ts, off, f :: fs => decide (f.offset = off) && decide (0 < t.size) && chkTD P t f.type && chkFs P ts (off + t.size) fs
  | _, _, _ => false
end

variable {P : Program} {td e : TD} {t : TypeId}

theorem chk_info (h : chkInfo P td t = true) : ∃ i, P.info? t = some i ∧ i.size = td.size ∧ i.zero = some (td.valOf td.zcells) := by
  unfold chkInfo at h
  split at h
  · rename_i i hi
    simp only [Bool.and_eq_true, decide_eq_true_eq] at h
    refine ⟨i, hi, h.1, ?_⟩
    have h2 := h.2
    split at h2
    · rename_i cs hz
      simp only [Bool.and_eq_true] at h2
      have e := veqs_eq h2.2
      rw [hz]
      unfold TD.valOf
      simp [h2.1, ← e]
    · rename_i v hv hz
      simp only [Bool.and_eq_true, Bool.not_eq_true'] at h2
      have e := veqs_eq h2.2
      rw [hz]
      unfold TD.valOf
      simp [h2.1, ← e]
    · cases h2
  · cases h
theorem chk_of (h : chkTD P td t = true) : chkInfo P td t = true := by
  cases td <;> simp only [chkTD, Bool.and_eq_true] at h <;> first | exact h.2 | cases h
theorem chkTD.info (h : chkTD P td t = true) : ∃ i, P.info? t = some i ∧ i.size = td.size ∧ i.zero = some (td.valOf td.zcells) := chk_info (chk_of h)
theorem chkTD.bool (h : chkTD P .bool t = true) : P.underlying t = some .bool := by
  simp only [chkTD, Bool.and_eq_true] at h
  have h := h.1
  split at h
  · assumption
  · cases h
theorem chkTD.int {k : IntKind} (h : chkTD P (.int k) t = true) : P.underlying t = some (.int k) := by
  simp only [chkTD, Bool.and_eq_true] at h
  have h := h.1
  split at h
  · rename_i j hj
    simp only [decide_eq_true_eq] at h
    rw [hj, h]
  · cases h
theorem chkTD.str (h : chkTD P .str t = true) : P.underlying t = some .string := by
  simp only [chkTD, Bool.and_eq_true] at h
  have h := h.1
  split at h
  · assumption
  · cases h
theorem chkTD.slice (h : chkTD P (.slice e) t = true) : ∃ te, P.underlying t = some (.slice te) ∧ chkTD P e te = true := by
  simp only [chkTD, Bool.and_eq_true] at h
  have h := h.1
  split at h
  · exact ⟨_, by assumption, h⟩
  · cases h
theorem chkTD.struct {fs : List TD} (h : chkTD P (.struct fs) t = true) : ∃ fields, P.underlying t = some (.struct fields) ∧ chkFs P fs 0 fields.toList = true := by
  simp only [chkTD, Bool.and_eq_true] at h
  have h := h.1
  split at h
  · exact ⟨_, by assumption, h⟩
  · cases h
theorem chkTD.arr {n : Nat} (h : chkTD P (.arr n e) t = true) : ∃ te, P.underlying t = some (.array n te) ∧ chkTD P e te = true := by
  simp only [chkTD, Bool.and_eq_true] at h
  have h := h.1
  split at h
  · rename_i m te hm
    simp only [Bool.and_eq_true, decide_eq_true_eq] at h
    exact ⟨te, by rw [hm, h.1], h.2⟩
  · cases h
theorem chkTD.ptr (h : chkTD P (.ptr e) t = true) : ∃ te, P.underlying t = some (.pointer te) ∧ chkTD P e te = true := by
  simp only [chkTD, Bool.and_eq_true] at h
  have h := h.1
  split at h
  · exact ⟨_, by assumption, h⟩
  · cases h
theorem chkTD.map {k : TD} (h : chkTD P (.map k e) t = true) : ∃ tk te, P.underlying t = some (.map tk te) ∧ chkTD P k tk = true ∧ chkTD P e te = true := by
  simp only [chkTD, Bool.and_eq_true] at h
  have h := h.1
  split at h
  · simp only [Bool.and_eq_true] at h
    exact ⟨_, _, by assumption, h.1, h.2⟩
  · cases h
theorem chkTD.func (h : chkTD P .func t = true) : ∃ a b c, P.underlying t = some (.func a b c) := by
  simp only [chkTD, Bool.and_eq_true] at h
  have h := h.1
  split at h
  · exact ⟨_, _, _, by assumption⟩
  · cases h
/-- A field of a struct. -/
theorem chkFs.get : ∀ {fs : List TD} {off : Nat} {fields : List Field} {i : Nat} {t : TD} {o : Nat}, chkFs P fs off fields = true → TD.field fs i = some (t, o) →
    ∃ f, fields[i]? = some f ∧ f.offset = off + o ∧ 0 < t.size ∧ chkTD P t f.type = true
  | t :: ts, off, f :: fs, 0, u, o, h, hf => by
    simp only [chkFs, Bool.and_eq_true, decide_eq_true_eq] at h
    simp only [TD.field, Option.some.injEq, Prod.mk.injEq] at hf
    obtain ⟨rfl, rfl⟩ := hf
    exact ⟨f, rfl, by omega, h.1.1.2, h.1.2⟩
  | t :: ts, off, f :: fs, i + 1, u, o, h, hf => by
    simp only [chkFs, Bool.and_eq_true, decide_eq_true_eq] at h
    simp only [TD.field] at hf
    split at hf
    · rename_i u' o' hu
      simp only [Option.some.injEq, Prod.mk.injEq] at hf
      obtain ⟨rfl, rfl⟩ := hf
      obtain ⟨g, h1, h2, h3, h4⟩ := chkFs.get h.2 hu
      exact ⟨g, by simpa using h1, by omega, h3, h4⟩
    · cases hf
  | [], _, [], _, _, _, _, hf => by simp [TD.field] at hf
  | [], _, _ :: _, _, _, _, h, _ => by simp [chkFs] at h
  | _ :: _, _, [], _, _, _, h, _ => by simp [chkFs] at h
theorem chkFs.length : ∀ {fs : List TD} {off : Nat} {fields : List Field}, chkFs P fs off fields = true → fields.length = fs.length
  | [], _, [], _ => rfl
  | t :: ts, off, f :: fs, h => by
    simp only [chkFs, Bool.and_eq_true] at h
    simp [chkFs.length h.2]
  | [], _, _ :: _, h => by simp [chkFs] at h
  | _ :: _, _, [], h => by simp [chkFs] at h

/-! ### Zero values -/
mutual
theorem zero_imm (w : World) (X : Nat → Prop) : ∀ {td : TD} {t : TypeId}, chkTD P td t = true → RC w X td td.zcells td.izero
  | .bool, _, _ => .bool _
  | .int k, _, _ => .int _ _
  | .str, _, _ => .str []
  | .slice e, _, _ => .slnil
  | .struct fs, _, h => by
    obtain ⟨fields, _, hc⟩ := chkTD.struct h
    exact .struct (zeros_imm w X hc)
  | .arr n e, _, h => by
    obtain ⟨te, _, hc⟩ := chkTD.arr h
    exact .arr (by simp) (zeroa_imm (zero_imm w X hc) n)
  | .ptr e, _, _ => .nilptr
  | .map k e, _, _ => .mapnil
  | .func, _, _ => .nilfn
  | .tup _, _, h => by simp [chkTD] at h
theorem zeros_imm (w : World) (X : Nat → Prop) : ∀ {fs : List TD} {off : Nat} {fields : List Field}, chkFs P fs off fields = true → RCs w X fs (TD.zcellss fs) (TD.izeros fs)
  | [], _, _, _ => .nil
  | t :: ts, off, f :: fs, h => by
    simp only [chkFs, Bool.and_eq_true] at h
    exact .cons (zero_imm w X h.1.2) (zeros_imm w X h.2)
  | _ :: _, _, [], h => by simp [chkFs] at h
theorem zeroa_imm {w : World} {X : Nat → Prop} {e : TD} {cs : List Value} {p : PV} (h : RC w X e cs p) : ∀ n : Nat, RCa w X e (List.replicate n cs).flatten (List.replicate n p)
  | 0 => .nil
  | n + 1 => by
    simp only [List.replicate_succ, List.flatten_cons]
    exact .cons h (zeroa_imm h n)
end
end Go.Vm
end
section
set_option linter.unusedSimpArgs false
set_option linter.unusedVariables false
namespace Go.Vm

def seg (off n : Nat) (cs : List Value) : List Value := (cs.drop off).take n
def splice (off : Nat) (ds cs : List Value) : List Value := cs.take off ++ ds ++ cs.drop (off + ds.length)

theorem seg_get {off n : Nat} {cs : List Value} {j : Nat} {v : Value} (h : (seg off n cs)[j]? = some v) : cs[off + j]? = some v := by
  simp only [seg, List.getElem?_take, List.getElem?_drop] at h
  split at h
  · exact h
  · cases h
theorem seg_seg {o n o' n' : Nat} {cs : List Value} (h : o' + n' ≤ n) : seg o' n' (seg o n cs) = seg (o + o') n' cs := by
  unfold seg
  rw [List.drop_take, List.drop_drop, List.take_take]
  congr 1
  omega
theorem seg_append_left {cs ds : List Value} {n : Nat} (h : cs.length = n) : seg 0 n (cs ++ ds) = cs := by
  subst h; simp [seg]
theorem seg_append_right {cs ds : List Value} {n o m : Nat} (h : cs.length = n) : seg (n + o) m (cs ++ ds) = seg o m ds := by
  subst h
  simp only [seg]
  congr 1
  rw [List.drop_append]
  simp [Nat.add_sub_cancel_left]
theorem splice_length {off : Nat} {ds cs : List Value} (h : off + ds.length ≤ cs.length) : (splice off ds cs).length = cs.length := by
  simp [splice]; omega
theorem splice_left {o : Nat} {ds cs es : List Value} (h : o + ds.length ≤ cs.length) : splice o ds (cs ++ es) = splice o ds cs ++ es := by
  simp only [splice]
  rw [List.take_append_of_le_length (by omega), List.drop_append_of_le_length (by omega)]
  simp [List.append_assoc]
theorem splice_right {o n : Nat} {ds cs es : List Value} (h : cs.length = n) : splice (n + o) ds (cs ++ es) = cs ++ splice o ds es := by
  subst h
  simp only [splice]
  rw [List.take_append, List.drop_append]
  simp [List.append_assoc, Nat.add_assoc, Nat.add_sub_cancel_left]
  rw [List.take_of_length_le (by omega), show List.drop (cs.length + (o + ds.length)) cs = [] from List.drop_eq_nil_of_le (by omega)]
  simp
theorem splice_zero {ds cs : List Value} (h : cs.length = ds.length) : splice 0 ds cs = ds := by
  simp [splice, List.drop_eq_nil_of_le (show cs.length ≤ ds.length by omega)]
theorem splice_splice {o o' n : Nat} {ds cs : List Value} (h : o' + ds.length ≤ n) (h2 : o + n ≤ cs.length) : splice o (splice o' ds (seg o n cs)) cs = splice (o + o') ds cs := by
  apply List.ext_getElem?
  intro i
  have hl : (seg o n cs).length = n := by simp [seg]; omega
  have hl2 : (splice o' ds (seg o n cs)).length = n := by rw [splice_length (by omega), hl]
  simp only [splice, List.getElem?_append, List.length_append, List.length_take, List.length_drop, hl, hl2, List.getElem?_take, List.getElem?_drop]
  simp only [seg, List.getElem?_take, List.getElem?_drop, List.length_take, List.length_drop] at *
  repeat' split
  all_goals first
    | rfl
    | (exfalso; omega)
    | (congr 1; omega)

/-! ### Values that nobody writes -/
variable {w : World} {X : Nat → Prop}

theorem RCs.get : ∀ {fs : List TD} {cs : List Value} {ps : List PV} {i : Nat} {t : TD} {o : Nat} {q : PV}, RCs w X fs cs ps → TD.field fs i = some (t, o) → ps[i]? = some q →
    o + t.size ≤ cs.length ∧ RC w X t (seg o t.size cs) q
  | _ :: _, _, _, 0, _, _, _, .cons h hs, hf, hq => by
    simp only [TD.field, Option.some.injEq, Prod.mk.injEq] at hf
    obtain ⟨rfl, rfl⟩ := hf
    simp only [List.getElem?_cons_zero, Option.some.injEq] at hq
    subst hq
    have hl := h.length
    refine ⟨by rw [List.length_append]; omega, ?_⟩
    rw [seg_append_left hl]
    exact h
  | _ :: _, _, _, i + 1, _, _, _, .cons h hs, hf, hq => by
    simp only [TD.field] at hf
    split at hf
    · rename_i u o hu
      simp only [Option.some.injEq, Prod.mk.injEq] at hf
      obtain ⟨rfl, rfl⟩ := hf
      simp only [List.getElem?_cons_succ] at hq
      have hl := h.length
      obtain ⟨h1, h2⟩ := RCs.get hs hu hq
      refine ⟨by rw [List.length_append]; omega, ?_⟩
      rw [seg_append_right hl]
      exact h2
    · cases hf
  | _, _, _, _, _, _, _, .nil, hf, _ => by simp [TD.field] at hf
theorem RCs.set : ∀ {fs : List TD} {cs ds : List Value} {ps : List PV} {i : Nat} {t : TD} {o : Nat} {q : PV}, RCs w X fs cs ps → TD.field fs i = some (t, o) → i < ps.length → RC w X t ds q →
    RCs w X fs (splice o ds cs) (ps.set i q)
  | _ :: _, _, _, _, 0, _, _, _, .cons h hs, hf, _, hq => by
    simp only [TD.field, Option.some.injEq, Prod.mk.injEq] at hf
    obtain ⟨rfl, rfl⟩ := hf
    have hl := h.length
    have hl2 := hq.length
    rw [splice_left (by omega)]
    rw [splice_zero (by omega)]
    exact .cons hq hs
  | _ :: _, _, _, _, i + 1, _, _, _, .cons h hs, hf, hi, hq => by
    simp only [TD.field] at hf
    split at hf
    · rename_i u o hu
      simp only [Option.some.injEq, Prod.mk.injEq] at hf
      obtain ⟨rfl, rfl⟩ := hf
      have hl := h.length
      rw [splice_right hl]
      exact .cons h (RCs.set hs hu (by simpa using hi) hq)
    · cases hf
  | _, _, _, _, _, _, _, _, .nil, hf, _, _ => by simp [TD.field] at hf
theorem RCa.get : ∀ {e : TD} {cs : List Value} {ps : List PV} {i : Nat} {q : PV}, RCa w X e cs ps → ps[i]? = some q → i * e.size + e.size ≤ cs.length ∧ RC w X e (seg (i * e.size) e.size cs) q
  | _, _, _, 0, _, .cons h hs, hq => by
    simp only [List.getElem?_cons_zero, Option.some.injEq] at hq
    subst hq
    have hl := h.length
    rw [Nat.zero_mul, seg_append_left hl]
    exact ⟨by rw [List.length_append]; omega, h⟩
  | e, _, _, i + 1, _, .cons h hs, hq => by
    simp only [List.getElem?_cons_succ] at hq
    have hl := h.length
    obtain ⟨h1, h2⟩ := RCa.get hs hq
    have em : (i + 1) * e.size = e.size + i * e.size := by rw [Nat.succ_mul]; omega
    rw [em, seg_append_right hl]
    exact ⟨by rw [List.length_append]; omega, h2⟩
  | _, _, _, _, _, .nil, hq => by simp at hq
theorem RCa.set : ∀ {e : TD} {cs ds : List Value} {ps : List PV} {i : Nat} {q : PV}, RCa w X e cs ps → i < ps.length → RC w X e ds q → RCa w X e (splice (i * e.size) ds cs) (ps.set i q)
  | _, _, _, _, 0, _, .cons h hs, _, hq => by
    have hl := h.length
    have hl2 := hq.length
    rw [Nat.zero_mul, splice_left (by omega)]
    rw [splice_zero (by omega)]
    exact .cons hq hs
  | e, _, _, _, i + 1, _, .cons h hs, hi, hq => by
    have hl := h.length
    have em : (i + 1) * e.size = e.size + i * e.size := by rw [Nat.succ_mul]; omega
    rw [em, splice_right hl]
    exact .cons h (RCa.set hs (by simpa using hi) hq)
  | _, _, _, _, _, _, .nil, hi, _ => by simp at hi

theorem TD.field_size : ∀ {fs : List TD} {i : Nat} {t : TD} {o : Nat}, TD.field fs i = some (t, o) → o + t.size ≤ TD.sizes fs
  | t :: ts, 0, u, o, h => by
    simp only [TD.field, Option.some.injEq, Prod.mk.injEq] at h
    obtain ⟨rfl, rfl⟩ := h
    simp [TD.sizes]
  | t :: ts, i + 1, u, o, h => by
    simp only [TD.field] at h
    split at h
    · rename_i u' o' hu
      simp only [Option.some.injEq, Prod.mk.injEq] at h
      obtain ⟨rfl, rfl⟩ := h
      have := TD.field_size hu
      simp only [TD.sizes]
      omega
    · cases h
  | [], _, _, _, h => by simp [TD.field] at h
theorem TD.at_size : ∀ {td : TD} {p : List Nat} {u : TD} {o : Nat}, TD.at td p = some (u, o) → o + u.size ≤ td.size := by
  intro td p
  induction p generalizing td with
  | nil =>
    intro u o h
    simp only [TD.at, Option.some.injEq, Prod.mk.injEq] at h
    obtain ⟨rfl, rfl⟩ := h
    simp
  | cons i p ih =>
    intro u o h
    cases td with
    | struct fs =>
      simp only [TD.at] at h
      split at h
      · rename_i t o1 h1
        split at h
        · rename_i u' o2 h2
          simp only [Option.some.injEq, Prod.mk.injEq] at h
          obtain ⟨rfl, rfl⟩ := h
          have a := TD.field_size h1
          have b := ih h2
          simp only [TD.size]
          omega
        · cases h
      · cases h
    | arr n e =>
      simp only [TD.at] at h
      split at h
      · rename_i hi
        split at h
        · rename_i u' o2 h2
          simp only [Option.some.injEq, Prod.mk.injEq] at h
          obtain ⟨rfl, rfl⟩ := h
          have b := ih h2
          have c : (i + 1) * e.size ≤ n * e.size := Nat.mul_le_mul_right _ hi
          rw [Nat.succ_mul] at c
          simp only [TD.size]
          omega
        · cases h
      · cases h
    | _ => simp [TD.at] at h

theorem RC.get : ∀ {p : List Nat} {td u : TD} {o : Nat} {cs : List Value} {x q : PV}, RC w X td cs x → TD.at td p = some (u, o) → getAt x p = some q → RC w X u (seg o u.size cs) q := by
  intro p
  induction p with
  | nil =>
    intro td u o cs x q h ht hq
    simp only [TD.at, Option.some.injEq, Prod.mk.injEq] at ht
    obtain ⟨rfl, rfl⟩ := ht
    have hq : x = q := by
      cases x <;> simpa [getAt] using hq
    subst hq
    have : seg 0 td.size cs = cs := by simp [seg, ← h.length]
    rw [this]
    exact h
  | cons i p ih =>
    intro td u o cs x q h ht hq
    cases x with
    | agg fs =>
      cases h with
      | struct hs =>
        simp only [getAt] at hq
        simp only [TD.at] at ht
        split at hq
        · rename_i y hy
          split at ht
          · rename_i t o1 h1
            split at ht
            · rename_i u' o2 h2
              simp only [Option.some.injEq, Prod.mk.injEq] at ht
              obtain ⟨rfl, rfl⟩ := ht
              have hg := hs.get h1 hy
              have := ih hg.2 h2 hq
              rwa [seg_seg (TD.at_size h2)] at this
            · cases ht
          · cases ht
        · cases hq
    | arr xs =>
      cases h with
      | arr hn hs =>
        simp only [getAt] at hq
        simp only [TD.at] at ht
        split at hq
        · rename_i y hy
          split at ht
          · split at ht
            · rename_i u' o2 h2
              simp only [Option.some.injEq, Prod.mk.injEq] at ht
              obtain ⟨rfl, rfl⟩ := ht
              have hg := hs.get hy
              have := ih hg.2 h2 hq
              rwa [seg_seg (TD.at_size h2)] at this
            · cases ht
          · cases ht
        · cases hq
    | _ => simp [getAt] at hq
theorem RC.set : ∀ {p : List Nat} {td u : TD} {o : Nat} {cs ds : List Value} {x q y : PV}, RC w X td cs x → TD.at td p = some (u, o) → RC w X u ds q → setAt x p q = some y → RC w X td (splice o ds cs) y := by
  intro p
  induction p with
  | nil =>
    intro td u o cs ds x q y h ht hq hy
    simp only [TD.at, Option.some.injEq, Prod.mk.injEq] at ht
    obtain ⟨rfl, rfl⟩ := ht
    have hy : q = y := by cases x <;> simpa [setAt] using hy
    subst hy
    have hl := h.length
    have hl2 := hq.length
    rw [splice_zero (by omega)]
    exact hq
  | cons i p ih =>
    intro td u o cs ds x q y h ht hq hy
    cases x with
    | agg fs =>
      cases h with
      | struct hs =>
        simp only [setAt] at hy
        simp only [TD.at] at ht
        split at hy
        · rename_i z hz
          split at hy
          · rename_i z' hz'
            simp only [Option.some.injEq] at hy
            subst hy
            split at ht
            · rename_i t o1 h1
              split at ht
              · rename_i u' o2 h2
                simp only [Option.some.injEq, Prod.mk.injEq] at ht
                obtain ⟨rfl, rfl⟩ := ht
                have hg := hs.get h1 hz
                have hi := ih hg.2 h2 hq hz'
                have hl := (List.getElem?_eq_some_iff.1 hz).1
                have := hs.set h1 hl hi
                rw [splice_splice (by rw [hq.length]; exact TD.at_size h2) hg.1] at this
                exact .struct this
              · cases ht
            · cases ht
          · cases hy
        · cases hy
    | arr xs =>
      cases h with
      | arr hn hs =>
        simp only [setAt] at hy
        simp only [TD.at] at ht
        split at hy
        · split at hy
          · rename_i z hz
            split at hy
            · rename_i z' hz'
              simp only [Option.some.injEq] at hy
              subst hy
              split at ht
              · split at ht
                · rename_i u' o2 h2
                  simp only [Option.some.injEq, Prod.mk.injEq] at ht
                  obtain ⟨rfl, rfl⟩ := ht
                  have hg := hs.get hz
                  have hi := ih hg.2 h2 hq hz'
                  have hl := (List.getElem?_eq_some_iff.1 hz).1
                  have := hs.set hl hi
                  rw [splice_splice (by rw [hq.length]; exact TD.at_size h2) hg.1] at this
                  exact .arr (by simpa using hn) this
                · cases ht
              · cases ht
            · cases hy
          · cases hy
        · cases hy
    | _ => simp [setAt] at hy

/-! ### Values in flight -/
variable {E : Env}
theorem RCs.toRTs : ∀ {fs : List TD} {cs : List Value} {ps : List PV}, RCs w E.X fs cs ps → RTs w E fs cs ps
  | _, _, _, .nil => .nil
  | _, _, _, .cons h hs => .cons (.imm h) hs.toRTs
theorem RT.fields {fs : List TD} {cs : List Value} {ps : List PV} {td : TD} (h : RT w E td cs (.agg ps)) : ∃ fs, td = .struct fs ∧ RTs w E fs cs ps := by
  cases h with
  | imm h => cases h with | struct h => exact ⟨_, rfl, h.toRTs⟩
  | struct h => exact ⟨_, rfl, h⟩
theorem RT.array {td : TD} {cs : List Value} {xs : List PV} (h : RT w E td cs (.arr xs)) : ∃ n e, td = .arr n e ∧ xs.length = n ∧ RCa w E.X e cs xs := by
  cases h with
  | imm h => cases h with | arr hn h => exact ⟨_, _, rfl, hn, h⟩

mutual
theorem RT.plain : ∀ {td : TD} {cs : List Value} {p : PV}, RT w E td cs p → p.plain = true → RC w E.X td cs p
  | _, _, _, .imm h, _ => h
  | _, _, _, .struct h, hp => .struct (RTs.plain h (by simpa [PV.plain] using hp))
  | _, _, _, .nil, hp => by simp [PV.plain] at hp
  | _, _, _, .ref _ _, hp => by simp [PV.plain] at hp
  | _, _, _, .sub .., hp => by simp [PV.plain] at hp
  | _, _, _, .subnil _, hp => by simp [PV.plain] at hp
  | _, _, _, .mref _, hp => by simp [PV.plain] at hp
  | _, _, _, .ptr _ _, hp => by simp [PV.plain] at hp
  | _, _, _, .eptr .., hp => by simp [PV.plain] at hp
  | _, _, _, .rptr .., hp => by simp [PV.plain] at hp
  | _, _, _, .dead _ _, hp => by simp [PV.plain] at hp
theorem RTs.plain : ∀ {fs : List TD} {cs : List Value} {ps : List PV}, RTs w E fs cs ps → PV.plains ps = true → RCs w E.X fs cs ps
  | _, _, _, .nil, _ => .nil
  | _, _, _, .cons h hs, hp => by
    simp only [PV.plains, Bool.and_eq_true] at hp
    exact .cons (RT.plain h hp.1) (RTs.plain hs hp.2)
end

theorem RTs.get : ∀ {fs : List TD} {cs : List Value} {ps : List PV} {i : Nat} {t : TD} {o : Nat} {q : PV}, RTs w E fs cs ps → TD.field fs i = some (t, o) → ps[i]? = some q →
    o + t.size ≤ cs.length ∧ RT w E t (seg o t.size cs) q
  | _ :: _, _, _, 0, _, _, _, .cons h hs, hf, hq => by
    simp only [TD.field, Option.some.injEq, Prod.mk.injEq] at hf
    obtain ⟨rfl, rfl⟩ := hf
    simp only [List.getElem?_cons_zero, Option.some.injEq] at hq
    subst hq
    have hl := h.length
    refine ⟨by rw [List.length_append]; omega, ?_⟩
    rw [seg_append_left hl]
    exact h
  | _ :: _, _, _, i + 1, _, _, _, .cons h hs, hf, hq => by
    simp only [TD.field] at hf
    split at hf
    · rename_i u o hu
      simp only [Option.some.injEq, Prod.mk.injEq] at hf
      obtain ⟨rfl, rfl⟩ := hf
      simp only [List.getElem?_cons_succ] at hq
      have hl := h.length
      obtain ⟨h1, h2⟩ := RTs.get hs hu hq
      refine ⟨by rw [List.length_append]; omega, ?_⟩
      rw [seg_append_right hl]
      exact h2
    · cases hf
  | _, _, _, _, _, _, _, .nil, hf, _ => by simp [TD.field] at hf
theorem RTs.set : ∀ {fs : List TD} {cs ds : List Value} {ps : List PV} {i : Nat} {t : TD} {o : Nat} {q : PV}, RTs w E fs cs ps → TD.field fs i = some (t, o) → i < ps.length → RT w E t ds q →
    RTs w E fs (splice o ds cs) (ps.set i q)
  | _ :: _, _, _, _, 0, _, _, _, .cons h hs, hf, _, hq => by
    simp only [TD.field, Option.some.injEq, Prod.mk.injEq] at hf
    obtain ⟨rfl, rfl⟩ := hf
    have hl := h.length
    have hl2 := hq.length
    rw [splice_left (by omega)]
    rw [splice_zero (by omega)]
    exact .cons hq hs
  | _ :: _, _, _, _, i + 1, _, _, _, .cons h hs, hf, hi, hq => by
    simp only [TD.field] at hf
    split at hf
    · rename_i u o hu
      simp only [Option.some.injEq, Prod.mk.injEq] at hf
      obtain ⟨rfl, rfl⟩ := hf
      have hl := h.length
      rw [splice_right hl]
      exact .cons h (RTs.set hs hu (by simpa using hi) hq)
    · cases hf
  | _, _, _, _, _, _, _, _, .nil, hf, _, _ => by simp [TD.field] at hf
theorem RT.get : ∀ {p : List Nat} {td u : TD} {o : Nat} {cs : List Value} {x q : PV}, RT w E td cs x → TD.at td p = some (u, o) → getAt x p = some q → RT w E u (seg o u.size cs) q := by
  intro p
  induction p with
  | nil =>
    intro td u o cs x q h ht hq
    simp only [TD.at, Option.some.injEq, Prod.mk.injEq] at ht
    obtain ⟨rfl, rfl⟩ := ht
    have hq : x = q := by
      cases x <;> simpa [getAt] using hq
    subst hq
    have : seg 0 td.size cs = cs := by simp [seg, ← h.length]
    rw [this]
    exact h
  | cons i p ih =>
    intro td u o cs x q h ht hq
    cases x with
    | agg fs =>
      obtain ⟨fs', rfl, hs⟩ := h.fields (fs := [])
      simp only [getAt] at hq
      simp only [TD.at] at ht
      split at hq
      · rename_i y hy
        split at ht
        · rename_i t o1 h1
          split at ht
          · rename_i u' o2 h2
            simp only [Option.some.injEq, Prod.mk.injEq] at ht
            obtain ⟨rfl, rfl⟩ := ht
            have hg := hs.get h1 hy
            have := ih hg.2 h2 hq
            rwa [seg_seg (TD.at_size h2)] at this
          · cases ht
        · cases ht
      · cases hq
    | arr xs =>
      obtain ⟨n, e, rfl, hn, hs⟩ := h.array
      exact .imm (RC.get (.arr hn hs) ht hq)
    | _ => simp [getAt] at hq
theorem RT.set : ∀ {p : List Nat} {td u : TD} {o : Nat} {cs ds : List Value} {x q y : PV}, RT w E td cs x → TD.at td p = some (u, o) → RT w E u ds q → setAt x p q = some y → RT w E td (splice o ds cs) y := by
  intro p
  induction p with
  | nil =>
    intro td u o cs ds x q y h ht hq hy
    simp only [TD.at, Option.some.injEq, Prod.mk.injEq] at ht
    obtain ⟨rfl, rfl⟩ := ht
    have hy : q = y := by cases x <;> simpa [setAt] using hy
    subst hy
    have hl := h.length
    have hl2 := hq.length
    rw [splice_zero (by omega)]
    exact hq
  | cons i p ih =>
    intro td u o cs ds x q y h ht hq hy
    cases x with
    | agg fs =>
      obtain ⟨fs', rfl, hs⟩ := h.fields (fs := [])
      simp only [setAt] at hy
      simp only [TD.at] at ht
      split at hy
      · rename_i z hz
        split at hy
        · rename_i z' hz'
          simp only [Option.some.injEq] at hy
          subst hy
          split at ht
          · rename_i t o1 h1
            split at ht
            · rename_i u' o2 h2
              simp only [Option.some.injEq, Prod.mk.injEq] at ht
              obtain ⟨rfl, rfl⟩ := ht
              have hg := hs.get h1 hz
              have hi := ih hg.2 h2 hq hz'
              have hl := (List.getElem?_eq_some_iff.1 hz).1
              have := hs.set h1 hl hi
              rw [splice_splice (by rw [hq.length]; exact TD.at_size h2) hg.1] at this
              exact .struct this
            · cases ht
          · cases ht
        · cases hy
      · cases hy
    | arr xs =>
      obtain ⟨n, e, rfl, hn, hs⟩ := h.array
      have hp : q.plain = true := by
        simp only [setAt] at hy
        split at hy
        · assumption
        · cases hy
      exact .imm (RC.set (.arr hn hs) ht (hq.plain hp) hy)
    | _ => simp [setAt] at hy
end Go.Vm
end
section
set_option linter.unusedSimpArgs false
set_option linter.unusedVariables false
namespace Go.Vm

mutual
def tdEq : TD → TD → Bool
  | .bool, .bool => true
  | .int j, .int k => decide (j = k)
  | .str, .str => true
  | .slice a, .slice b => tdEq a b
  | .struct a, .struct b => tdEqs a b
  | .arr m a, .arr n b => decide (m = n) && tdEq a b
  | .ptr a, .ptr b => tdEq a b
  | .map a b, .map c d => tdEq a c && tdEq b d
  | .func, .func => true
  | .tup a, .tup b => tdEqs a b
  | _, _ => false
def tdEqs : List TD → List TD → Bool
  | [], [] => true
  | a :: as, b :: bs => tdEq a b && tdEqs as bs
  | _, _ => false
end
mutual
theorem tdEq_eq : ∀ {a b : TD}, tdEq a b = true → a = b
  | .bool, .bool, _ => rfl
  | .int j, .int k, h => by simp only [tdEq, decide_eq_true_eq] at h; rw [h]
  | .str, .str, _ => rfl
  | .slice a, .slice b, h => by simp only [tdEq] at h; rw [tdEq_eq h]
  | .struct a, .struct b, h => by simp only [tdEq] at h; rw [tdEqs_eq h]
  | .arr m a, .arr n b, h => by simp only [tdEq, Bool.and_eq_true, decide_eq_true_eq] at h; rw [h.1, tdEq_eq h.2]
  | .ptr a, .ptr b, h => by simp only [tdEq] at h; rw [tdEq_eq h]
  | .map a b, .map c d, h => by simp only [tdEq, Bool.and_eq_true] at h; rw [tdEq_eq h.1, tdEq_eq h.2]
  | .func, .func, _ => rfl
  | .tup a, .tup b, h => by simp only [tdEq] at h; rw [tdEqs_eq h]
  | .bool, .int _, h | .bool, .str, h | .bool, .slice _, h | .bool, .struct _, h | .bool, .arr _ _, h | .bool, .ptr _, h | .bool, .map _ _, h | .bool, .func, h | .bool, .tup _, h => by simp [tdEq] at h
  | .int _, .bool, h | .int _, .str, h | .int _, .slice _, h | .int _, .struct _, h | .int _, .arr _ _, h | .int _, .ptr _, h | .int _, .map _ _, h | .int _, .func, h | .int _, .tup _, h => by simp [tdEq] at h
  | .str, .bool, h | .str, .int _, h | .str, .slice _, h | .str, .struct _, h | .str, .arr _ _, h | .str, .ptr _, h | .str, .map _ _, h | .str, .func, h | .str, .tup _, h => by simp [tdEq] at h
  | .slice _, .bool, h | .slice _, .int _, h | .slice _, .str, h | .slice _, .struct _, h | .slice _, .arr _ _, h | .slice _, .ptr _, h | .slice _, .map _ _, h | .slice _, .func, h | .slice _, .tup _, h => by simp [tdEq] at h
  | .struct _, .bool, h | .struct _, .int _, h | .struct _, .str, h | .struct _, .slice _, h | .struct _, .arr _ _, h | .struct _, .ptr _, h | .struct _, .map _ _, h | .struct _, .func, h | .struct _, .tup _, h => by simp [tdEq] at h
  | .arr _ _, .bool, h | .arr _ _, .int _, h | .arr _ _, .str, h | .arr _ _, .slice _, h | .arr _ _, .struct _, h | .arr _ _, .ptr _, h | .arr _ _, .map _ _, h | .arr _ _, .func, h | .arr _ _, .tup _, h => by simp [tdEq] at h
  | .ptr _, .bool, h | .ptr _, .int _, h | .ptr _, .str, h | .ptr _, .slice _, h | .ptr _, .struct _, h | .ptr _, .arr _ _, h | .ptr _, .map _ _, h | .ptr _, .func, h | .ptr _, .tup _, h => by simp [tdEq] at h
  | .map _ _, .bool, h | .map _ _, .int _, h | .map _ _, .str, h | .map _ _, .slice _, h | .map _ _, .struct _, h | .map _ _, .arr _ _, h | .map _ _, .ptr _, h | .map _ _, .func, h | .map _ _, .tup _, h => by simp [tdEq] at h
  | .func, .bool, h | .func, .int _, h | .func, .str, h | .func, .slice _, h | .func, .struct _, h | .func, .arr _ _, h | .func, .ptr _, h | .func, .map _ _, h | .func, .tup _, h => by simp [tdEq] at h
  | .tup _, .bool, h | .tup _, .int _, h | .tup _, .str, h | .tup _, .slice _, h | .tup _, .struct _, h | .tup _, .arr _ _, h | .tup _, .ptr _, h | .tup _, .map _ _, h | .tup _, .func, h => by simp [tdEq] at h
theorem tdEqs_eq : ∀ {a b : List TD}, tdEqs a b = true → a = b
  | [], [], _ => rfl
  | a :: as, b :: bs, h => by
    simp only [tdEqs, Bool.and_eq_true] at h
    rw [tdEq_eq h.1, tdEqs_eq h.2]
  | [], _ :: _, h => by simp [tdEqs] at h
  | _ :: _, [], h => by simp [tdEqs] at h
end

/-! ### Operands -/
def constOk (td : TD) (v : Value) (p : PV) : Bool :=
  match td, v, p with
  | .bool, .bool a, .bool b => decide (a = b)
  | .int k, .int j a, .int l b => decide (k = j) && decide (k = l) && decide (a = b)
  | .str, .string s, .str l => decide (s.data.toList = l)
  | .slice _, .slice none 0 0, .nil => true
  | .ptr _, .pointer none, .nilp => true
  | .map _ _, .map none, .nilp => true
  | .func, .nilFunc, .nilp => true
  | _, _, _ => false
def argOk (Γ : Nat → TD) (x : Operand) (y : VA) (td : TD) : Bool :=
  match x, y with
  | .tmp n, .s m => decide (n = m) && tdEq (Γ n) td
  | .const v, .c p => constOk td v p
  | .func f, .c (.fn g) => decide (f = g) && (match td with | .func => true | _ => false)
  | _, _ => false

variable {P : Program} {F : Fr} {w w' : World} {st st' : St} {a a' : Act} {E E' : Env}

theorem constOk_rv {td : TD} {v : Value} {p : PV} (h : constOk td v p = true) : RV w E td v p ∧ Ok st p := by
  unfold constOk at h
  split at h
  · simp only [decide_eq_true_eq] at h; subst h; exact ⟨.cells (.imm (.bool _)) rfl, by simp [Ok, ids, bxs]⟩
  · simp only [Bool.and_eq_true, decide_eq_true_eq] at h
    obtain ⟨⟨rfl, rfl⟩, rfl⟩ := h
    exact ⟨.cells (.imm (.int _ _)) rfl, by simp [Ok, ids, bxs]⟩
  · rename_i s l
    simp only [decide_eq_true_eq] at h
    subst h
    exact ⟨.cells (cs := [.string s]) (.imm (by have := RC.str (w := w) (X := E.X) s.data.toList; simpa using this)) rfl, by simp [Ok, ids, bxs]⟩
  · exact ⟨.cells .nil rfl, by simp [Ok, ids, bxs]⟩
  · exact ⟨.cells (.imm .nilptr) rfl, by simp [Ok, ids, bxs]⟩
  · exact ⟨.cells (.imm .mapnil) rfl, by simp [Ok, ids, bxs]⟩
  · exact ⟨.cells (.imm .nilfn) rfl, by simp [Ok, ids, bxs]⟩
  · cases h
theorem Rel.arg (h : Rel F st a w E) {x : Operand} {y : VA} {td : TD} {p : PV} (hx : argOk F.Γ x y td = true) (hy : y.eval st = some p) : RV w E td (a.eval x) p ∧ Ok st p := by
  unfold argOk at hx
  split at hx
  · rename_i n m
    simp only [Bool.and_eq_true, decide_eq_true_eq] at hx
    obtain ⟨rfl, h2⟩ := hx
    have h2 := tdEq_eq h2
    subst h2
    obtain ⟨v, hv, hr⟩ := h.slots _ _ hy
    refine ⟨?_, h.ok hy⟩
    simp only [Act.eval, Array.getD_eq_getD_getElem?, hv, Option.getD_some]
    exact hr
  · simp only [VA.eval, Option.some.injEq] at hy
    subst hy
    exact constOk_rv hx
  · rename_i f g
    simp only [VA.eval, Option.some.injEq] at hy
    subst hy
    simp only [Bool.and_eq_true, decide_eq_true_eq] at hx
    obtain ⟨rfl, h2⟩ := hx
    split at h2
    · exact ⟨.cells (.imm (.fn _)) rfl, by simp [Ok, ids, bxs]⟩
    · cases h2
  · cases hx

/-! ### What a value tells of the machine's -/
theorem RV.int {td : TD} {v : Value} {k : IntKind} {n : Int} (h : RV w E td v (.int k n)) : v = .int k n ∧ td = .int k := by
  cases h with
  | cells h hv => cases h with
    | imm h => cases h; exact ⟨hv, rfl⟩
theorem RV.bool {td : TD} {v : Value} {b : Bool} (h : RV w E td v (.bool b)) : v = .bool b ∧ td = .bool := by
  cases h with
  | cells h hv => cases h with
    | imm h => cases h; exact ⟨hv, rfl⟩
theorem RV.str {td : TD} {v : Value} {l : List UInt8} (h : RV w E td v (.str l)) : v = .string ⟨l.toArray⟩ ∧ td = .str := by
  cases h with
  | cells h hv => cases h with
    | imm h => cases h; exact ⟨hv, rfl⟩
theorem RV.ptr {td : TD} {v : Value} {b : Nat} {path : List Nat} (h : RV w E td v (.ptr b path)) :
    ∃ t td0 ad off, td = .ptr t ∧ v = .pointer (some (ad.add off)) ∧ E.bb b = some (td0, ad) ∧ TD.at td0 path = some (t, off) := by
  cases h with
  | cells h hv => cases h with
    | imm h => cases h
    | ptr h1 h2 => exact ⟨_, _, _, _, rfl, hv, h1, h2⟩
theorem RV.eptr {td : TD} {v : Value} {r : RId} {i : Nat} {path : List Nat} (h : RV w E td v (.eptr r i path)) :
    ∃ t e ad len cap off, td = .ptr t ∧ v = .pointer (some (ad.add (i * e.size + off))) ∧ E.rb r = some (.row e (.slice (some ad) len cap)) ∧ i < len ∧ TD.at e path = some (t, off) := by
  cases h with
  | cells h hv => cases h with
    | imm h => cases h
    | eptr h1 h2 h3 => exact ⟨_, _, _, _, _, _, rfl, hv, h1, h2, h3⟩
theorem RV.rptr {td : TD} {v : Value} {x : PV} (h : RV w E td v (.rptr x)) :
    ∃ t ad cs, td = .ptr t ∧ v = .pointer (some ad) ∧ (¬ E.X ad.block ∧ ad.block < w.heap.size) ∧ CellsAt w ad cs ∧ RC w E.X t cs x := by
  cases h with
  | cells h hv => cases h with
    | imm h => cases h
    | rptr h1 h2 h3 => exact ⟨_, _, _, rfl, hv, h1, h2, h3⟩

theorem upon_value {o : Oper} {K : Act → World → Prop} {Q : Exit → Act → World → Prop} {v : Value} (h : (execOp a.eval o).run P w = .ok (.value v) w') (hK : K (a.put o.dst v) w') : o.wp P a w K Q := by
  unfold Oper.wp
  rw [h]
  exact hK
theorem upon_skip {o : Oper} {K : Act → World → Prop} {Q : Exit → Act → World → Prop} (h : (execOp a.eval o).run P w = .ok .skip w') (hd : o.dst = none) (hK : K a w') : o.wp P a w K Q := by
  unfold Oper.wp
  rw [h]
  simpa [Oper.upon, Act.put, hd] using hK
end Go.Vm
end
