/- Races: accesses and states. Conditions: none. -/
import Derived.Test.YtgcgbcdgbfeaaaaAmRecs
set_option linter.unusedVariables false
set_option linter.unusedSimpArgs false
namespace Go.AM
def ck (l : List Int) : List SV := l.map (SV.int .u32)
theorem ck_at (a : List Int) (i : Nat) (h : i < a.length) : (ck a)[i]? = some (.int .u32 (a.getD i 0)) := by
  simp [ck, List.getElem?_eq_getElem h]
theorem ck_len (a : List Int) : (ck a).length = a.length := by simp [ck]
/-- An access. -/
structure AcV where
  t : Int
  c : Int
  w : Bool
  k : List Int
  L : Int
  hk : k.length = 8
def AcV.cells (x : AcV) : List SV := .int .i64 x.t :: .int .i64 x.c :: .bool x.w :: (ck x.k ++ [.int .u64 x.L])
theorem AcV.len (x : AcV) : x.cells.length = 12 := by simp [AcV.cells, ck_len, x.hk]
theorem AcV.c0 (x : AcV) : x.cells[0]? = some (.int .i64 x.t) := nrfl rfl
theorem AcV.c1 (x : AcV) : x.cells[1]? = some (.int .i64 x.c) := nrfl rfl
theorem AcV.c2 (x : AcV) : x.cells[2]? = some (.bool x.w) := nrfl rfl
theorem AcV.c11 (x : AcV) : x.cells[11]? = some (.int .u64 x.L) := by
  show (ck x.k ++ [SV.int .u64 x.L])[8]? = _
  rw [List.getElem?_append_right (by rw [ck_len, x.hk]; omega), ck_len, x.hk]; rfl
theorem AcV.clk {P : Program} {t : TypeId} (ha : aggT P t = some true) (hs : szT P t = some 8) (x : AcV) : partA P t x.cells 3 = some (.ag (ck x.k)) := by
  rw [part_ag ha hs, if_pos (by rw [AcV.len]; omega)]
  show some (CV.ag ((ck x.k ++ [SV.int .u64 x.L]).take 8)) = _
  rw [List.take_append_of_le_length (by rw [ck_len, x.hk]; omega), List.take_of_length_le (by rw [ck_len, x.hk]; omega)]
theorem AcV.clk2 (x : AcV) : List.take 8 (List.drop 3 x.cells) = ck x.k := by
  show (ck x.k ++ [SV.int .u64 x.L]).take 8 = _
  rw [List.take_append_of_le_length (by rw [ck_len, x.hk]; omega), List.take_of_length_le (by rw [ck_len, x.hk]; omega)]
def AcV.one (x : AcV) : Bool := decide (0 ≤ x.t ∧ x.t ≤ 7)
theorem AcV.lit (x : AcV) : ∃ a b c d e f g h : Int, x.cells = [.int .i64 x.t, .int .i64 x.c, .bool x.w, .int .u32 a, .int .u32 b, .int .u32 c, .int .u32 d, .int .u32 e, .int .u32 f, .int .u32 g, .int .u32 h, .int .u64 x.L] := by
  obtain ⟨t, c, w, k, L, hk⟩ := x
  match k, hk with
  | [a, b, c, d, e, f, g, h], _ => exact ⟨a, b, c, d, e, f, g, h, rfl⟩
/-- A cell's state. -/
structure StV where
  k : Int
  t : Int
  L : Int
def StV.cells (x : StV) : List SV := [.int .i64 x.k, .int .i64 x.t, .int .u64 x.L]
theorem StV.len (x : StV) : x.cells.length = 3 := nrfl rfl
def metV (k L : Int) : StV := ⟨if k = 3 ∧ L = 0 then 4 else k, 0, L⟩
def wrV (a : AcV) : Int := if a.w = true then 3 else 2
def andV (a b : Int) : Int := bitsA .and .u64 a b
def nextV (s : StV) (a : AcV) : StV :=
  if a.one = false then s else if s.k = 0 then ⟨1, a.t, 0⟩ else if s.k = 1 then (if a.t = s.t then s else metV (wrV a) a.L)
  else if s.k = 2 then metV (wrV a) (andV s.L a.L) else metV s.k (andV s.L a.L)
/-- A cell's state behind so many accesses. -/
def cellV (l : List AcV) (c : Int) : Nat → StV
  | 0 => ⟨0, 0, 0⟩
  | n + 1 => match l[n]? with | some x => if x.c = c then nextV (cellV l c n) x else cellV l c n | none => cellV l c n
theorem cellV_succ {l : List AcV} {n : Nat} {x : AcV} (h : l[n]? = some x) (c : Int) : cellV l c (n + 1) = if c = x.c then nextV (cellV l c n) x else cellV l c n := by
  show (match l[n]? with | some x => if x.c = c then nextV (cellV l c n) x else cellV l c n | none => cellV l c n) = _
  rw [h]
  by_cases e : c = x.c
  · subst e; simp
  · simp [e, Ne.symm e]
end Go.AM
