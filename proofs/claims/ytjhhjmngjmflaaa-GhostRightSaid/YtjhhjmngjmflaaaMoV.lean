/- Monitors' model: its values, and what a transition does to them. Conditions: none. -/
import Derived.Test.YtjhhjmngjmflaaaDictP
import Derived.Test.YtjhhjmngjmflaaaAmRecs
import Derived.Test.YtjhhjmngjmflaaaAmSort
set_option linter.unusedVariables false
set_option linter.unusedSimpArgs false
namespace Go.AM
/-- A transition. -/
structure EvV where
  k : Int
  t : Int
  o : Int
  a : Int
  e : Int
def EvV.cells (x : EvV) : List SV := [.int .i64 x.k, .int .i64 x.t, .int .i64 x.o, .int .i64 x.a, .int .i64 x.e]
theorem EvV.len (x : EvV) : x.cells.length = 5 := nrfl rfl
theorem EvV.c0 (x : EvV) : x.cells[0]? = some (.int .i64 x.k) := nrfl rfl
theorem EvV.c1 (x : EvV) : x.cells[1]? = some (.int .i64 x.t) := nrfl rfl
theorem EvV.c2 (x : EvV) : x.cells[2]? = some (.int .i64 x.o) := nrfl rfl
theorem EvV.c3 (x : EvV) : x.cells[3]? = some (.int .i64 x.a) := nrfl rfl
theorem EvV.c4 (x : EvV) : x.cells[4]? = some (.int .i64 x.e) := nrfl rfl
theorem EvV.fr (x : EvV) : (freeA (.v (.ag x.cells))).isSome = true := nrfl rfl
/-- An object's monitor. -/
structure MonV where
  own : Int
  cnt : Int
  hsh : Int
def MonV.cells (m : MonV) : List SV := [.int .i64 m.own, .int .i64 m.cnt, .int .i64 m.hsh]
theorem MonV.len (x : MonV) : x.cells.length = 3 := nrfl rfl
theorem MonV.c0 (x : MonV) : x.cells[0]? = some (.int .i64 x.own) := nrfl rfl
theorem MonV.c1 (x : MonV) : x.cells[1]? = some (.int .i64 x.cnt) := nrfl rfl
theorem MonV.c2 (x : MonV) : x.cells[2]? = some (.int .i64 x.hsh) := nrfl rfl
theorem MonV.fr (x : MonV) : (freeA (.v (.ag x.cells))).isSome = true := nrfl rfl
/-- How one left. -/
structure LfV where
  cnt : Int
  why : Int
def LfV.cv (x : LfV) : CV := .ag [.int .i64 x.cnt, .int .i64 x.why]
def intV (n : Int) : CV := .sc (.int .i64 n)
structure MdV where
  most : Int
  mons : List MonV
  flags : List Bool
  waits : List (Pk × Int)
  left : List (Pk × LfV)
/-- The threads that stand at an object. -/
def thrV {α : Type} (l : List (Pk × α)) (o : Int) : List Int := (l.filter fun p => p.1.1 == o).map (·.1.2)
def MdV.setM (V : MdV) (o : Nat) (x : MonV) : MdV := { V with mons := V.mons.set o x }
def MdV.setF (V : MdV) (t : Nat) (b : Bool) : MdV := { V with flags := V.flags.set t b }
def enterV (V : MdV) (e : EvV) (o : MonV) : Option MdV :=
  if e.e = 0 then (if (o.own ≠ e.t ∧ o.own ≠ -1) ∨ o.cnt = V.most then none else some (V.setM e.o.toNat ⟨e.t, o.cnt + 1, o.hsh⟩))
  else if e.e = 10 then (if o.own = e.t ∧ o.cnt = V.most then some V else none)
  else if e.e = 11 then (if e.k = 1 ∧ o.own ≠ e.t ∧ o.own ≠ -1 then some V else none)
  else if e.e = 14 then (if e.k = 2 ∧ o.own ≠ e.t ∧ o.own ≠ -1 then some V else none)
  else none
def exitV (V : MdV) (e : EvV) (o : MonV) : Option MdV :=
  if e.e = 9 then (if o.own ≠ e.t then some V else none)
  else if e.e ≠ 0 ∨ o.own ≠ e.t then none
  else some (V.setM e.o.toNat ⟨if o.cnt - 1 = 0 then -1 else o.own, o.cnt - 1, o.hsh⟩)
def beginV (V : MdV) (e : EvV) (o : MonV) (f : Bool) : Option MdV :=
  if e.e = 9 then (if o.own ≠ e.t then some V else none)
  else if e.e = 11 then (if o.own = e.t then some V else none)
  else if e.e = 12 then (if o.own = e.t ∧ f = true then some (V.setF e.t.toNat false) else none)
  else if e.e = 0 then (if o.own = e.t then some { V.setM e.o.toNat ⟨-1, 0, o.hsh⟩ with waits := updP (e.o, e.t) o.cnt V.waits } else none)
  else none
def leaveV (V : MdV) (p : Pk) (why : Int) : Option MdV :=
  match getP p V.waits with
  | some n => some { V with waits := delP p V.waits, left := updP p ⟨n, why⟩ V.left }
  | none => none
def endV (V : MdV) (e : EvV) (o : MonV) : Option MdV :=
  match getP (e.o, e.t) V.left with
  | some l => if o.own ≠ -1 ∨ l.why ≠ e.e then none else
      some { (if e.e = 12 then V.setF e.t.toNat false else V).setM e.o.toNat ⟨e.t, l.cnt, o.hsh⟩ with left := delP (e.o, e.t) V.left }
  | none => none
def tellV (V : MdV) (e : EvV) (o : MonV) : Option MdV :=
  if e.k = 7 then (if e.e = 0 ∧ o.own = e.t then leaveV V (e.o, e.a) 0 else none)
  else if e.e = 9 then (if o.own ≠ e.t ∧ (e.k = 9 ∧ e.a = 0 ∨ e.k = 8 ∧ e.a = -1) then some V else none)
  else if e.e ≠ 0 ∨ o.own ≠ e.t then none
  else if e.k = 9 then (if e.a = 0 ∧ thrV V.waits e.o = [] then some V else none)
  else if (0 ≤ e.a ∧ e.a < V.flags.length) ∨ (e.a = -1 ∧ thrV V.waits e.o = []) then some V else none
def hashV (V : MdV) (e : EvV) (o : MonV) : Option MdV :=
  if e.e = 11 then (if e.a = 0 ∧ o.own ≠ -1 then some V else none)
  else if e.e ≠ 0 ∨ ¬ (1 ≤ e.a ∧ e.a ≤ 2147483647) ∨ (o.hsh ≠ 0 ∧ o.hsh ≠ e.a) then none
  else some (V.setM e.o.toNat ⟨o.own, o.cnt, e.a⟩)
def holdsV (V : MdV) (e : EvV) (o : MonV) : Option MdV :=
  if e.e = 0 ∧ (e.a = 1 ∧ o.own = e.t ∨ e.a = 0 ∧ o.own ≠ e.t) then some V else none
def intrV (V : MdV) (e : EvV) : Option MdV :=
  if e.e = 0 ∧ 0 ≤ e.a ∧ e.a < V.flags.length then some (V.setF e.a.toNat true) else none
def applyV (V : MdV) (e : EvV) (o : MonV) (f : Bool) : Option MdV :=
  if e.k = 1 ∨ e.k = 2 then (if e.a = 0 then enterV V e o else none)
  else if e.k = 3 then (if e.a = 0 then exitV V e o else none)
  else if e.k = 4 then (if e.a = 0 then beginV V e o f else none)
  else if e.k = 5 then (if e.a = 0 ∧ (e.e = 13 ∨ e.e = 12 ∧ f = true) then leaveV V (e.o, e.t) e.e else none)
  else if e.k = 6 then (if e.a = 0 then endV V e o else none)
  else if e.k = 7 ∨ e.k = 8 ∨ e.k = 9 then tellV V e o
  else if e.k = 10 then hashV V e o
  else if e.k = 11 then holdsV V e o
  else if e.k = 12 then intrV V e
  else none
/-- A thread waits somewhere, or left. -/
def goneV (V : MdV) (t : Int) : Bool := (List.range V.mons.length).any fun i => (getP ((i : Int), t) V.waits).isSome || (getP ((i : Int), t) V.left).isSome
theorem goneV_iff (V : MdV) (t : Int) : goneV V t = true ↔ ∃ i : Nat, i < V.mons.length ∧ ((getP ((i : Int), t) V.waits).isSome = true ∨ (getP ((i : Int), t) V.left).isSome = true) := by
  unfold goneV
  rw [List.any_eq_true]
  simp only [List.mem_range, Bool.or_eq_true]
theorem goneV_false (V : MdV) (t : Int) : goneV V t = false ↔ ∀ i : Nat, i < V.mons.length → getP ((i : Int), t) V.waits = none ∧ getP ((i : Int), t) V.left = none := by
  rw [Bool.eq_false_iff, Ne, goneV_iff]
  constructor
  · intro h i hi
    constructor
    · cases hg : getP ((i : Int), t) V.waits with
      | none => rfl
      | some v => exact absurd ⟨i, hi, .inl (by rw [hg]; rfl)⟩ h
    · cases hg : getP ((i : Int), t) V.left with
      | none => rfl
      | some v => exact absurd ⟨i, hi, .inr (by rw [hg]; rfl)⟩ h
  · rintro h ⟨i, hi, q | q⟩
    · rw [(h i hi).1] at q; cases q
    · rw [(h i hi).2] at q; cases q
/-- An event's thread and object are there, and the thread may do something. -/
def mayV (V : MdV) (e : EvV) : Bool := decide (0 ≤ e.t ∧ e.t < V.flags.length) && decide (0 ≤ e.o ∧ e.o < V.mons.length) && (decide (e.k = 5) || decide (e.k = 6) || !goneV V e.t)
def AppV (V : MdV) (e : EvV) : Option MdV :=
  if mayV V e = true then applyV V e (V.mons.getD e.o.toNat ⟨-1, 0, 0⟩) (V.flags.getD e.t.toNat false) else none
/-- Behind a transition. -/
def nextM (V : MdV) (e : EvV) : MdV := (AppV V e).getD V
def codeM (V : MdV) (e : EvV) : Int := if (AppV V e).isSome = true then 0 else 15
end Go.AM
