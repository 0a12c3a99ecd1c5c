/- The abstract machine: what operations do. Conditions: none; definitions alone. -/
import Derived.Test.YtjhhjmngjmflaaaAmBase
set_option linter.unusedVariables false
namespace Go.AM

/-- A constant's cell. -/
def constS : Value → Option SV
  | .int k n => some (.int k n)
  | .bool b => some (.bool b)
  | .string s => some (.str s)
  | .pointer none => some .nilp
  | .slice none 0 0 => some .nils
  | .map none => some .nilm
  | .nilFunc => some .nilf
  | .nilIface => some .nili
  | _ => none
def constL : List Value → Option (List SV)
  | [] => some []
  | v :: vs => (constS v).bind fun x => (constL vs).map (x :: ·)
def constA : Value → AV
  | .agg cs => match constL cs.toList with | some xs => .v (.ag xs) | none => .und
  | v => match constS v with | some x => .v (.sc x) | none => .und
def aeval (e : List AV) : Operand → AV
  | .tmp t => e.getD t .und
  | .const v => constA v
  | .func f => .v (.sc (.fn f [] []))
  | .global _ => .und

def aggT (P : Program) (t : TypeId) : Option Bool :=
  match P.underlying t with
  | some (.struct _) => some true
  | some (.array _ _) => some true
  | some _ => some false
  | none => none
def szT (P : Program) (t : TypeId) : Option Nat := (P.info? t).map (·.size)

/-- The cells of a block. -/
def cellsAt (h : List AO) (l : Nat) : Option (List SV) :=
  match h[l]? with
  | some (.ro cs) => some cs
  | some (.rw _ cs) => some cs
  | _ => none
/-- A value of type t out of cells. -/
def partA (P : Program) (t : TypeId) (cs : List SV) (o : Nat) : Option CV :=
  match aggT P t with
  | some true => match szT P t with | some n => if o + n ≤ cs.length then some (.ag ((cs.drop o).take n)) else none | none => none
  | some false => (cs[o]?).map .sc
  | none => none
def loadA (P : Program) (h : List AO) (t : TypeId) : AV → Option AV
  | .v (.sc (.ptr l o)) => (cellsAt h l).bind fun cs => (partA P t cs o).map .v
  | _ => none
def indexAddrA (P : Program) (t : TypeId) (x i : AV) : Option AV :=
  match x, i, P.underlying t with
  | .v (.sc (.ptr l o)), .v (.sc (.int _ i)), some (.array n e) =>
    match szT P e with | some s => if 0 ≤ i ∧ i < n then some (.v (.sc (.ptr l (o + i.toNat * s)))) else none | none => none
  | .v (.sc (.sl l o n _)), .v (.sc (.int _ i)), some (.slice e) =>
    match szT P e with | some s => if 0 ≤ i ∧ i < n then some (.v (.sc (.ptr l (o + i.toNat * s)))) else none | none => none
  | _, _, _ => none
def fieldAddrA (P : Program) (t : TypeId) (x : AV) (f : Nat) : Option AV :=
  match x, P.underlying t with
  | .v (.sc (.ptr l o)), some (.struct fs) =>
    match fs[f]? with
    | some fd => match szT P fd.type with | some (_ + 1) => some (.v (.sc (.ptr l (o + fd.offset)))) | _ => none
    | none => none
  | _, _ => none
def fieldA (P : Program) (t : TypeId) (x : AV) (f : Nat) : Option AV :=
  match x, P.underlying t with
  | .v (.ag cs), some (.struct fs) =>
    match fs[f]? with
    | some fd => (partA P fd.type cs fd.offset).map .v
    | none => none
  | _, _ => none
def indexA (P : Program) (t : TypeId) (x i : AV) : Option AV :=
  match x, i, P.underlying t with
  | .v (.ag cs), .v (.sc (.int _ i)), some (.array n e) =>
    match szT P e with | some s => if 0 ≤ i ∧ i < n then (partA P e cs (i.toNat * s)).map .v else none | none => none
  | .v (.sc (.str s)), .v (.sc (.int _ i)), some .string =>
    if 0 ≤ i then (s[i.toNat]?).map fun b => .v (.sc (.int .u8 b.toNat)) else none
  | _, _, _ => none
def extractA (x : AV) (i : Nat) : Option AV :=
  match x with
  | .tup vs => (vs[i]?).map .v
  | _ => none
/-- Whole numbers. -/
def bitsA (op : BinOp) (k : IntKind) (x y : Int) : Int :=
  let a := BitVec.ofInt k.bits x
  let b := BitVec.ofInt k.bits y
  k.wrap ((match op with | .and => a &&& b | .or => a ||| b | .xor => a ^^^ b | _ => a &&& ~~~b).toNat)
def binI (op : BinOp) (k : IntKind) (x y : Int) : Option SV :=
  match op with
  | .add => some (.int k (k.wrap (x + y)))
  | .sub => some (.int k (k.wrap (x - y)))
  | .mul => some (.int k (k.wrap (x * y)))
  | .quo => if y = 0 then none else some (.int k (k.wrap (x.tdiv y)))
  | .rem => if y = 0 then none else some (.int k (x.tmod y))
  | .and | .or | .xor | .andNot => some (.int k (bitsA op k x y))
  | .eql => some (.bool (x == y))
  | .neq => some (.bool (x != y))
  | .lss => some (.bool (x < y))
  | .leq => some (.bool (x ≤ y))
  | .gtr => some (.bool (x > y))
  | .geq => some (.bool (x ≥ y))
  | _ => none
def shiftA (op : BinOp) (k : IntKind) (x y : Int) : Option SV :=
  if y < 0 then none else
  match op with
  | .shl => some (.int k (k.wrap (x * 2 ^ (min y.toNat k.bits))))
  | .shr => some (.int k (x.fdiv (2 ^ (min y.toNat k.bits))))
  | _ => none
def strOpA (op : BinOp) (x y : ByteArray) : Option SV :=
  match op with
  | .add => if x.size + y.size ≤ 9223372036854775807 then some (.str (x ++ y)) else none
  | .eql => some (.bool (x.toList == y.toList))
  | .neq => some (.bool !(x.toList == y.toList))
  | .lss => some (.bool (Op.bytesLess x.toList y.toList))
  | .leq => some (.bool (Op.bytesLess x.toList y.toList || x.toList == y.toList))
  | .gtr => some (.bool !(Op.bytesLess x.toList y.toList || x.toList == y.toList))
  | .geq => some (.bool !(Op.bytesLess x.toList y.toList))
  | _ => none
/-- '==' of cells of whole numbers, bools and strings: by their kinds (0: bool, 1: whole number, 2: string). -/
def eqS : Nat → SV → SV → Option Bool
  | 1, .int k a, .int k' b => if k = k' then some (a == b) else none
  | 0, .bool a, .bool b => some (a == b)
  | 2, .str a, .str b => some (a.toList == b.toList)
  | _, _, _ => none
def eqL : List Nat → List SV → List SV → Option Bool
  | [], [], [] => some true
  | z :: zs, x :: xs, y :: ys => (eqS z x y).bind fun b => (eqL zs xs ys).map (b && ·)
  | _, _, _ => none
def flatFs (F : TypeId → Option (List Nat)) : Nat → List Field → Option (List Nat)
  | _, [] => some []
  | n, f :: fs => if f.name ≠ "_" ∧ f.offset = n then (F f.type).bind fun m => (flatFs F (n + m.length) fs).map (m ++ ·) else none
/-- A type whose values are compared cell by cell: the cells' kinds. -/
def flatT (P : Program) : Nat → TypeId → Option (List Nat)
  | 0, _ => none
  | d + 1, t =>
    match P.underlying t with
    | some .bool => if szT P t = some 1 then some [0] else none
    | some (.int _) => if szT P t = some 1 then some [1] else none
    | some .string => if szT P t = some 1 then some [2] else none
    | some (.struct fs) => (flatFs (flatT P d) 0 fs.toList).bind fun l => if P.stoodInHeld t = false ∧ szT P t = some l.length then some l else none
    | some (.array n e) => (flatT P d e).bind fun l => if szT P t = some (n * l.length) then some (List.replicate n l).flatten else none
    | _ => none
def eqA (P : Program) (t : TypeId) : AV → AV → Option Bool
  | .v (.ag xs), .v (.ag ys) =>
    (flatT P 20 t).bind fun l => if P.eqGuardType P.depth t = false ∧ aggT P t = some true then eqL l xs ys else none
  | .v (.sc .nilp), .v (.sc y) => (match P.underlying t, y with | some (.pointer _), .nilp => some true | some (.pointer _), .ptr _ _ => some false | _, _ => none)
  | .v (.sc (.ptr _ _)), .v (.sc .nilp) => (match P.underlying t with | some (.pointer _) => some false | _ => none)
  | .v (.sc .nils), .v (.sc y) => (match P.underlying t, y with | some (.slice _), .nils => some true | some (.slice _), .sl _ _ _ _ => some false | _, _ => none)
  | .v (.sc (.sl _ _ _ _)), .v (.sc .nils) => (match P.underlying t with | some (.slice _) => some false | _ => none)
  | .v (.sc .nilm), .v (.sc y) => (match P.underlying t, y with | some (.map _ _), .nilm => some true | some (.map _ _), .mp _ => some false | _, _ => none)
  | .v (.sc (.mp _)), .v (.sc .nilm) => (match P.underlying t with | some (.map _ _) => some false | _ => none)
  | .v (.sc (.bool a)), .v (.sc (.bool b)) => (match P.underlying t with | some .bool => some (a == b) | _ => none)
  | _, _ => none
def binOpA (P : Program) (op : BinOp) (t : TypeId) (x y : AV) : Option AV :=
  match x, y with
  | .v (.sc (.int k a)), .v (.sc (.int k' b)) =>
    match op with
    | .shl | .shr => (shiftA op k a b).map fun z => .v (.sc z)
    | _ => if k = k' then (binI op k a b).map fun z => .v (.sc z) else none
  | .v (.sc (.str a)), .v (.sc (.str b)) => (strOpA op a b).map fun z => .v (.sc z)
  | x, y =>
    match op with
    | .eql => (eqA P t x y).map fun b => .v (.sc (.bool b))
    | .neq => (eqA P t x y).map fun b => .v (.sc (.bool !b))
    | _ => none
def unOpA (op : UnOp) (x : AV) : Option AV :=
  match op, x with
  | .neg, .v (.sc (.int k n)) => some (.v (.sc (.int k (k.wrap (0 - n)))))
  | .xor, .v (.sc (.int k n)) => some (.v (.sc (.int k (bitsA .xor k (if k.signed then -1 else k.max) n))))
  | .not, .v (.sc (.bool b)) => some (.v (.sc (.bool !b)))
  | _, _ => none
def convertA (P : Program) (s d : TypeId) (x : AV) : Option AV :=
  match P.underlying s, P.underlying d, x with
  | some _, some (.int k), .v (.sc (.int _ n)) => some (.v (.sc (.int k (k.wrap n))))
  | some _, some .string, .v (.sc (.str b)) => some (.v (.sc (.str b)))
  | _, _, _ => none
def sliceA (P : Program) (t : TypeId) (x : AV) (lo hi mx : Option AV) : Option AV :=
  match x, P.underlying t, mx with
  | .v (.sc (.sl l o n s)), some (.slice e), none =>
    match hi.getD (.v (.sc (.int .i64 n))), lo.getD (.v (.sc (.int .i64 0))) with
    | .v (.sc (.int _ j)), .v (.sc (.int _ i)) => if 0 ≤ i ∧ i ≤ j ∧ j ≤ n ∧ szT P e = some s then some (.v (.sc (.sl l (o + i.toNat * s) (j.toNat - i.toNat) s))) else none
    | _, _ => none
  | .v (.sc .nils), some (.slice e), none =>
    match hi.getD (.v (.sc (.int .i64 0))), lo.getD (.v (.sc (.int .i64 0))) with
    | .v (.sc (.int _ j)), .v (.sc (.int _ i)) => if i = 0 ∧ j = 0 ∧ (szT P e).isSome then some (.v (.sc .nils)) else none
    | _, _ => none
  | .v (.sc (.str b)), some .string, none =>
    match hi.getD (.v (.sc (.int .i64 b.size))), lo.getD (.v (.sc (.int .i64 0))) with
    | .v (.sc (.int _ j)), .v (.sc (.int _ i)) => if 0 ≤ i ∧ i ≤ j ∧ j ≤ b.size then some (.v (.sc (.str (b.extract i.toNat j.toNat)))) else none
    | _, _ => none
  | _, _, _ => none
def lenA (P : Program) (h : List AO) (t : TypeId) (x : AV) : Option AV :=
  match P.underlying t, x with
  | some .string, .v (.sc (.str s)) => some (.v (.sc (.int .i64 s.size)))
  | some (.array n _), _ => some (.v (.sc (.int .i64 n)))
  | some (.slice _), .v (.sc (.sl _ _ n _)) => some (.v (.sc (.int .i64 n)))
  | some (.slice _), .v (.sc .nils) => some (.v (.sc (.int .i64 0)))
  | some (.map _ _), .v (.sc .nilm) => some (.v (.sc (.int .i64 0)))
  | some (.map _ _), .v (.sc (.mp l)) => match h[l]? with | some (.map es) => some (.v (.sc (.int .i64 es.length))) | _ => none
  | _, _ => none
def min2A : AV → AV → Option AV
  | .v (.sc (.int k x)), .v (.sc (.int _ y)) => some (.v (.sc (.int k (if y < x then y else x))))
  | _, _ => none
def max2A : AV → AV → Option AV
  | .v (.sc (.int k x)), .v (.sc (.int _ y)) => some (.v (.sc (.int k (if x < y then y else x))))
  | _, _ => none
/-- Cells put over others. -/
def splice (cs : List SV) (o : Nat) (new : List SV) : List SV := cs.take o ++ new ++ cs.drop (o + new.length)
def fillA (place : Nat → Option (Nat × Nat)) (cs : List SV) : List (Nat × AV) → Option (List SV)
  | [] => some cs
  | (i, .v x) :: rest =>
    match place i with
    | some (o, n) => if x.cells.length = n ∧ o + n ≤ cs.length then fillA place (splice cs o x.cells) rest else none
    | none => none
  | _ :: _ => none
def zeroL (P : Program) (t : TypeId) : Option (List SV) := ((P.info? t).bind (·.zero)).bind fun z => constL z.cells.toList
/-- A type's zero. -/
def zeroC (P : Program) (t : TypeId) : Option CV := ((P.info? t).bind (·.zero)).bind fun z => match constA z with | .v c => some c | _ => none
/-- A whole number among a map's keys: where, and what. -/
def findM (k : IntKind) (a : Int) : List (CV × CV) → Nat → Option (Option (Nat × CV))
  | [], _ => some none
  | (.sc (.int k' b), v) :: es, i => if k = k' then (if a = b then some (some (i, v)) else findM k a es (i + 1)) else none
  | _ :: _, _ => none
/-- A map's entries. -/
def mapAt (h : List AO) : AV → Option (List (CV × CV))
  | .v (.sc .nilm) => some []
  | .v (.sc (.mp l)) => match h[l]? with | some (.map es) => some es | _ => none
  | _ => none
/-- Whole numbers all; a key of such. -/
def intsB (xs : List SV) : Bool := xs.all fun x => match x with | .int _ _ => true | _ => false
def keyB (P : Program) (kt : TypeId) (ks : List SV) : Bool := intsB ks && match P.underlying kt with
  | some (.struct fs) => fs.toList.all fun f => decide (f.name ≠ "_") && decide (f.offset < ks.length) && match P.underlying f.type with | some (.int _) => true | _ => false
  | _ => false
/-- Such a key among a map's keys: where, and what. -/
def findS (P : Program) (kt : TypeId) (ks : List SV) : List (CV × CV) → Nat → Option (Option (Nat × CV))
  | [], _ => some none
  | (.ag bs, v) :: es, i => if intsB bs = true then (eqA P kt (.v (.ag ks)) (.v (.ag bs))).bind fun q => bif q then some (some (i, v)) else findS P kt ks es (i + 1) else none
  | _ :: _, _ => none
def lookupA (P : Program) (h : List AO) (t : TypeId) (x y : AV) (ok : Bool) : Option AV :=
  match P.underlying t, y with
  | some (.map kt el), .v (.sc (.int k a)) =>
    match P.underlying kt with
    | some (.int _) =>
      (mapAt h x).bind fun es => (findM k a es 0).bind fun r =>
      match r with
      | some (_, v) => some (if ok then .tup [v, .sc (.bool true)] else .v v)
      | none => (zeroC P el).map fun z => if ok then .tup [z, .sc (.bool false)] else .v z
    | _ => none
  | some (.map kt el), .v (.ag ks) =>
    if keyB P kt ks = true then
      (mapAt h x).bind fun es => (findS P kt ks es 0).bind fun r =>
      match r with
      | some (_, v) => some (if ok then .tup [v, .sc (.bool true)] else .v v)
      | none => (zeroC P el).map fun z => if ok then .tup [z, .sc (.bool false)] else .v z
    else none
  | _, _ => none
/-- Where the fields of a struct lie. -/
def placesA (P : Program) : List Field → Option (List (Nat × Nat))
  | [] => some []
  | f :: fs => (szT P f.type).bind fun n => (placesA P fs).map ((f.offset, n) :: ·)
def buildA (P : Program) (t : TypeId) (parts : List (Nat × AV)) : Option AV :=
  (zeroL P t).bind fun z =>
  match P.underlying t with
  | some (.struct fs) => (placesA P fs.toList).bind fun pl => (fillA (fun i => pl[i]?) z parts).map fun cs => .v (.ag cs)
  | some (.array _ e) => (szT P e).bind fun s => (fillA (fun i => some (i * s, s)) z parts).map fun cs => .v (.ag cs)
  | _ => none
def toS : AV → Option SV
  | .v (.sc x) => some x
  | _ => none
def toSL : List AV → Option (List SV)
  | [] => some []
  | x :: xs => (toS x).bind fun y => (toSL xs).map (y :: ·)

/-- Operations that write nothing, and call nobody. -/
def pureA (P : Program) (o : Oper) (e : List AV) (h : List AO) : Option AV :=
  match o.op with
  | .move x | .assign x => some (aeval e x)
  | .pick c a b => match aeval e c with | .v (.sc (.bool q)) => some (if q then aeval e a else aeval e b) | _ => none
  | .load t a => loadA P h t (aeval e a)
  | .nilCheck x => match aeval e x with | .v (.sc (.ptr l i)) => some (.v (.sc (.ptr l i))) | .v (.sc (.fn f a c)) => some (.v (.sc (.fn f a c))) | _ => none
  | .binOp op t x y _ => binOpA P op t (aeval e x) (aeval e y)
  | .unOp op _ x => unOpA op (aeval e x)
  | .convert s d x => convertA P s d (aeval e x)
  | .fieldAddr s x f => fieldAddrA P s (aeval e x) f
  | .field s x f => fieldA P s (aeval e x) f
  | .indexAddr t x i => indexAddrA P t (aeval e x) (aeval e i)
  | .index t x i => indexA P t (aeval e x) (aeval e i)
  | .extract x i => extractA (aeval e x) i
  | .slice t x lo hi mx => sliceA P t (aeval e x) (lo.map (aeval e)) (hi.map (aeval e)) (mx.map (aeval e))
  | .build t parts => buildA P t (parts.toList.map fun p => (p.1, aeval e p.2))
  | .makeFunc (.func f) a c => (toSL (a.toList.map (aeval e))).bind fun a => (toSL (c.toList.map (aeval e))).map fun c => .v (.sc (.fn f a c))
  | .call { callee := .builtin .len, args, argTypes } =>
    match args.toList, argTypes.toList with
    | [x], [t] => lenA P h t (aeval e x)
    | _, _ => none
  | .call { callee := .builtin .min, args, argTypes } => match args.toList with | [x, y] => min2A (aeval e x) (aeval e y) | _ => none
  | .call { callee := .builtin .max, args, argTypes } => match args.toList with | [x, y] => max2A (aeval e x) (aeval e y) | _ => none
  | .lookup t x k ok => lookupA P h t (aeval e x) (aeval e k) ok
  | _ => none
end Go.AM
