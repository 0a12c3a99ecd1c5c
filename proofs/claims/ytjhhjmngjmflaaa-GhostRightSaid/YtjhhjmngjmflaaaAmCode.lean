/- The abstract machine: operations that write, calls by what is known of them, and code. Conditions: none; definitions alone. -/
import Derived.Test.YtjhhjmngjmflaaaAmHeap
import Derived.Still
import Derived.StillTail
import Derived.Deep.Quiet
set_option linter.unusedVariables false
namespace Go.AM

def bytesT (P : Program) (t : TypeId) : Option Nat := (P.info? t).map (·.bytes)
/-- A slice's cells. -/
def sliceCells (P : Program) (h : List AO) (e : TypeId) : AV → Option (List SV)
  | .v (.sc .nils) => some []
  | .v (.sc (.sl l o n s)) => (cellsAt h l).bind fun cs => if szT P e = some s ∧ o + n * s ≤ cs.length then some ((cs.drop o).take (n * s)) else none
  | _ => none
def appendA (P : Program) (h : List AO) (lock : Nat) (t : TypeId) (x y : AV) : Option (AV × List AO) :=
  match P.underlying t with
  | some (.slice e) =>
    match szT P e, bytesT P e, zeroL P e with
    | some s, some b, some z =>
      (sliceCells P h e y).bind fun new =>
      if s = 0 ∨ b = 0 ∨ new.length % s ≠ 0 ∨ z.length ≠ s then none else
      match x with
      | .v (.sc .nils) =>
        if new = [] then some (x, h)
        else if new.length / s * b ≤ 140737488355328 then some (.v (.sc (.sl h.length 0 (new.length / s) s)), h ++ [.rw e new]) else none
      | .v (.sc (.sl l o n s')) =>
        if s' ≠ s then none else
        if new = [] then some (x, h) else
        match h[l]? with
        | some (.rw e' cs) =>
          if lock ≤ l ∧ e' = e then
            if o + n * s = cs.length then
              if (n + new.length / s) * b ≤ 140737488355328 then some (.v (.sc (.sl h.length 0 (n + new.length / s) s)), h.set l .dead ++ [.rw e (cs.drop o ++ new)]) else none
            else if o + n * s + new.length ≤ cs.length then some (.v (.sc (.sl l o (n + new.length / s) s)), h.set l (.rw e (splice cs (o + n * s) new)))
            else none
          else none
        | _ => none
      | _ => none
    | _, _, _ => none
  | _ => none
def storeA (P : Program) (h : List AO) (lock : Nat) (t : TypeId) (x y : AV) : Option (List AO) :=
  match x, y with
  | .v (.sc (.ptr l o)), .v c =>
    match h[l]? with
    | some (.rw e cs) => if lock ≤ l ∧ szT P t = some c.cells.length ∧ o + c.cells.length ≤ cs.length then some (h.set l (.rw e (splice cs o c.cells))) else none
    | _ => none
  | _, _ => none
/-- A slice beyond another one's length, in its block; one whose room is told: what it is, is not told. -/
def sliceE (P : Program) (h : List AO) (t : TypeId) (x : AV) (lo hi mx : Option AV) : Option (AV × List AO) :=
  match x, P.underlying t with
  | .v (.sc (.sl l o n s)), some (.slice el) =>
    if szT P el = some s ∧ s ≠ 0 then
      match hi, mx with
      | some (.v (.sc (.int _ j))), none =>
        match lo.getD (.v (.sc (.int .i64 0))), h[l]? with
        | .v (.sc (.int _ i)), some (.rw _ cs) => if 0 ≤ i ∧ i ≤ j ∧ o + j.toNat * s ≤ cs.length then some (.v (.sc (.sl l (o + i.toNat * s) (j.toNat - i.toNat) s)), h) else none
        | _, _ => none
      | some (.v (.sc (.int _ j))), some (.v (.sc (.int _ m))) =>
        match lo.getD (.v (.sc (.int .i64 0))) with
        | .v (.sc (.int _ i)) => if 0 ≤ i ∧ i ≤ j ∧ j ≤ m ∧ m ≤ n then some (.und, h) else none
        | _ => none
      | _, _ => none
    else none
  | _, _ => none
/-- A slice's cells are cleared. -/
def clearA (P : Program) (h : List AO) (lock : Nat) (t : TypeId) (x : AV) : Option (AV × List AO) :=
  match x, P.underlying t with
  | .v (.sc .nils), some (.slice _) => some (.tup [], h)
  | .v (.sc (.sl l o n s)), some (.slice el) =>
    if n = 0 then some (.tup [], h) else
    match zeroL P el, h[l]? with
    | some z, some (.rw e cs) => if lock ≤ l ∧ z.length = s ∧ s ≠ 0 ∧ o + n * s ≤ cs.length then some (.tup [], h.set l (.rw e (splice cs o (List.replicate n z).flatten))) else none
    | _, _ => none
  | _, _ => none
/-- A map's entry is put, or taken away. -/
def updA (P : Program) (h : List AO) (lock : Nat) (t : TypeId) (x k v : AV) : Option (List AO) :=
  match P.underlying t, x, k, v with
  | some (.map kt _), .v (.sc (.mp l)), .v (.sc (.int q a)), .v c =>
    match P.underlying kt, h[l]? with
    | some (.int _), some (.map es) =>
      if lock ≤ l then (findM q a es 0).map fun r => match r with
        | some (i, _) => h.set l (.map (es.set i (.sc (.int q a), c)))
        | none => h.set l (.map (es ++ [(.sc (.int q a), c)]))
      else none
    | _, _ => none
  | some (.map kt _), .v (.sc (.mp l)), .v (.ag ks), .v c =>
    match h[l]? with
    | some (.map es) =>
      if lock ≤ l ∧ keyB P kt ks = true then (findS P kt ks es 0).map fun r => match r with
        | some (i, _) => h.set l (.map (es.set i (.ag ks, c)))
        | none => h.set l (.map (es ++ [(.ag ks, c)]))
      else none
    | _ => none
  | _, _, _, _ => none
def delA (P : Program) (h : List AO) (lock : Nat) (t : TypeId) (x k : AV) : Option (List AO) :=
  match P.underlying t, x, k with
  | some (.map kt _), .v (.sc (.mp l)), .v (.sc (.int q a)) =>
    match P.underlying kt, h[l]? with
    | some (.int _), some (.map es) =>
      if lock ≤ l then (findM q a es 0).map fun r => match r with
        | some (i, _) => h.set l (.map (es.eraseIdx i))
        | none => h
      else none
    | _, _ => none
  | some (.map kt _), .v (.sc (.mp l)), .v (.ag ks) =>
    match h[l]? with
    | some (.map es) =>
      if lock ≤ l ∧ keyB P kt ks = true then (findS P kt ks es 0).map fun r => match r with
        | some (i, _) => h.set l (.map (es.eraseIdx i))
        | none => h
      else none
    | _ => none
  | _, _, _ => none
def effA (P : Program) (o : Oper) (e : List AV) (lock : Nat) (h : List AO) : Option (AV × List AO) :=
  match o.op with
  | .alloc t => (zeroL P t).map fun z => (.v (.sc (.ptr h.length 0)), h ++ [.rw t z])
  | .box t x => match aeval e x with | .v c => some (.v (.sc (.ptr h.length 0)), h ++ [.rw t c.cells]) | _ => none
  | .store t a x => (storeA P h lock t (aeval e a) (aeval e x)).map fun h' => (.sk, h')
  | .makeSlice t x y =>
    match P.underlying t, aeval e x, aeval e y with
    | some (.slice el), .v (.sc (.int .i64 n)), .v (.sc (.int .i64 m)) =>
      match szT P el, bytesT P el, zeroL P el with
      | some s, some b, some z => if 0 ≤ n ∧ n = m ∧ n.toNat * b ≤ 140737488355328 ∧ n ≤ 140737488355328 ∧ z.length = s ∧ s ≠ 0 then some (.v (.sc (.sl h.length 0 n.toNat s)), h ++ [.rw el (List.replicate n.toNat z).flatten]) else none
      | _, _, _ => none
    | _, _, _ => none
  | .buildSlice t n parts =>
    match P.underlying t with
    | some (.slice el) =>
      match szT P el, zeroL P el with
      | some s, some z =>
        if n * s ≤ 16777216 ∧ z.length = s ∧ s ≠ 0 then
          (fillA (fun i => some (i * s, s)) (List.replicate n z).flatten (parts.toList.map fun p => (p.1, aeval e p.2))).map fun cs => (.v (.sc (.sl h.length 0 n s)), h ++ [.rw el cs])
        else none
      | _, _ => none
    | _ => none
  | .call { callee := .builtin .append, args, argTypes } =>
    match args.toList, argTypes.toList with
    | [x, y], [t, t'] => if t = t' then appendA P h lock t (aeval e x) (aeval e y) else none
    | _, _ => none
  | .makeMap t r => if r.isNone then some (.v (.sc (.mp h.length)), h ++ [.map []]) else none
  | .slice t x lo hi mx => sliceE P h t (aeval e x) (lo.map (aeval e)) (hi.map (aeval e)) (mx.map (aeval e))
  | .call { callee := .builtin .clear, args, argTypes } =>
    match args.toList, argTypes.toList with
    | [x], [t] => clearA P h lock t (aeval e x)
    | _, _ => none
  | .mapUpdate t m k x => (updA P h lock t (aeval e m) (aeval e k) (aeval e x)).map fun h' => (.sk, h')
  | .call { callee := .builtin .delete, args, argTypes } =>
    match args.toList, argTypes.toList with
    | [x, y], [t, t'] => (delA P h lock t (aeval e x) (aeval e y)).map fun h' => (.tup [], h')
    | _, _ => none
  | _ => none

/-- What is known of functions: arguments, from where one may write, the heap: the result, the heap. -/
abbrev Ext := FuncId → List CV → Nat → List AO → Option (AV × List AO)
def toC : AV → Option CV
  | .v x => some x
  | _ => none
def toCL : List AV → Option (List CV)
  | [] => some []
  | x :: xs => (toC x).bind fun y => (toCL xs).map (y :: ·)
/-- A call: whom, with what. -/
def calleeA (o : Oper) (e : List AV) : Option (FuncId × List CV) :=
  match o.op with
  | .call { callee := .value f, args, .. } =>
    match aeval e f with
    | .v (.sc (.fn f a c)) => (toCL (args.toList.map (aeval e))).map fun xs => (f, a.map .sc ++ xs ++ c.map .sc)
    | _ => none
  | _ => none

/-- Is an operation wanted? -/
def wantedA (ops : Array Oper) (e : List AV) (o : Oper) : Option Bool :=
  match o.guard with
  | none => some true
  | some (j, want) =>
    match (ops[j]?).bind (·.dst) with
    | some d => match e[d]? with | some (.v (.sc (.bool b))) => some (b == want) | some .sk => some false | _ => none
    | none => some false
def setD (e : List AV) (d : Option Tmp) (x : AV) : List AV := match d with | some d => e.set d x | none => e

def stepA (P : Program) (E : Ext) (lock : Nat) (o : Oper) (e : List AV) (h : List AO) : Option (AV × List AO) :=
  match pureA P o e h with
  | some r => some (r, h)
  | none =>
    match calleeA o e with
    | some (f, xs) => E f xs lock h
    | none => effA P o e lock h

abbrev Res := Option (AV × List AO)
def opsA (P : Program) (E : Ext) (lock : Nat) (ops : Array Oper) : List Oper → List AV → List AO → (List AV → List AO → Res) → Res
  | [], e, h, K => K e h
  | o :: rest, e, h, K =>
    match wantedA ops e o with
    | some true => (stepA P E lock o e h).bind fun r => opsA P E lock ops rest (setD e o.dst r.1) r.2 K
    | some false => opsA P E lock ops rest (setD e o.dst .sk) h K
    | none => none

/-- A value without addresses. -/
def freeS : SV → Option Value
  | .int k n => some (.int k n)
  | .bool b => some (.bool b)
  | .str s => some (.string s)
  | .nilp => some (.pointer none)
  | .nils => some (.slice none 0 0)
  | .nilm => some (.map none)
  | .nilf => some .nilFunc
  | .nili => some .nilIface
  | _ => none
def freeL : List SV → Option (List Value)
  | [] => some []
  | x :: xs => (freeS x).bind fun v => (freeL xs).map (v :: ·)
def freeC : CV → Option Value
  | .sc x => freeS x
  | .ag cs => (freeL cs).map fun vs => .agg vs.toArray
def freeCL : List CV → Option (List Value)
  | [] => some []
  | x :: xs => (freeC x).bind fun v => (freeCL xs).map (v :: ·)
def freeA : AV → Option Value
  | .v x => freeC x
  | .tup xs => (freeCL xs).map fun vs => .tuple vs.toArray
  | _ => none
/-- In a region whose order is open: what leaves the heap alone. -/
def quietA (P : Program) (E : Ext) (o : Oper) (e : List AV) (h : List AO) : Option AV :=
  match pureA P o e h with
  | some r => some r
  | none =>
    match calleeA o e with
    | some (f, xs) =>
      match E f xs h.length h with
      | some (r, h') => if h'.length = h.length ∧ (freeA r).isSome then some r else none
      | none => none
    | none => none
def opsQ (P : Program) (E : Ext) (ops : Array Oper) : List Oper → List AV → List AO → (List AV → Res) → Res
  | [], e, h, K => K e
  | o :: rest, e, h, K =>
    match wantedA ops e o with
    | some true => (quietA P E o e h).bind fun r => opsQ P E ops rest (setD e o.dst r) h K
    | some false => opsQ P E ops rest (setD e o.dst .sk) h K
    | none => none
def iterA {α : Type} (F : (α → Res) → α → Res) : Nat → α → Res
  | 0, _ => none
  | k + 1, x => F (iterA F k) x

/-- Slots that nobody reads any more, by regions. -/
def forget (e : List AV) : List Nat → List AV
  | [] => e
  | d :: ds => forget (e.set d .und) ds
end Go.AM
