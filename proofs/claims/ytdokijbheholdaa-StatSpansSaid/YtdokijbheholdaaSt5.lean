/- Counts: spans, in lists. Conditions: none. -/
import Derived.Test.YtdokijbheholdaaSt4
set_option linter.unusedVariables false
set_option linter.unusedSimpArgs false
set_option maxRecDepth 100000
namespace Go.AM
open Go.Proofs
/-- An entry: its kind, its thread, and what else it has. -/
structure EnV where
  k : Int
  t : Int
  a : Int
  b : Int
  c : Int
  d : Int
  e : Int
  f : Int
  g : Int
  h : Int
  i : Int
  j : Int
  l : Int
def EnV.cells (x : EnV) : List SV := [.int .i64 x.k, .int .i64 x.t, .int .i64 x.a, .int .i64 x.b, .int .i64 x.c, .int .i64 x.d, .int .i64 x.e, .int .i64 x.f, .int .i64 x.g, .int .i64 x.h, .int .i64 x.i, .int .i64 x.j, .int .i64 x.l]
theorem EnV.len (x : EnV) : x.cells.length = 13 := nrfl rfl
theorem EnV.c0 (x : EnV) : x.cells[0]? = some (.int .i64 x.k) := nrfl rfl
theorem EnV.c1 (x : EnV) : x.cells[1]? = some (.int .i64 x.t) := nrfl rfl
/-- The last Call of a thread that did not return yet: its place, and one more. -/
def scanS (t : Int) (l : List EnV) : Nat := (l.foldl (fun s e => (s.1 + 1, if e.t = t then (if e.k = 3 then 0 else if e.k = 1 then s.1 + 1 else s.2) else s.2)) (0, 0)).2
theorem scan_cnt (t : Int) : ∀ (l : List EnV) (s : Nat × Nat), (l.foldl (fun s e => (s.1 + 1, if e.t = t then (if e.k = 3 then 0 else if e.k = 1 then s.1 + 1 else s.2) else s.2)) s).1 = s.1 + l.length
  | [], s => rfl
  | e :: l, s => by rw [List.foldl_cons, scan_cnt t l]; simp; omega
theorem scanS_snoc (t : Int) (l : List EnV) (e : EnV) : scanS t (l ++ [e]) = if e.t = t then (if e.k = 3 then 0 else if e.k = 1 then l.length + 1 else scanS t l) else scanS t l := by
  unfold scanS
  rw [List.foldl_append]
  simp only [List.foldl_cons, List.foldl_nil, scan_cnt, Nat.zero_add]
theorem scanS_le (t : Int) (l : List EnV) : scanS t l ≤ l.length := by
  unfold scanS
  have : ∀ (l : List EnV) (s : Nat × Nat), s.2 ≤ s.1 → (l.foldl (fun s e => (s.1 + 1, if e.t = t then (if e.k = 3 then 0 else if e.k = 1 then s.1 + 1 else s.2) else s.2)) s).2 ≤ s.1 + l.length := by
    intro l
    induction l with
    | nil => intro s hs; simpa using hs
    | cons e l ih =>
      intro s hs
      rw [List.foldl_cons]
      refine Nat.le_trans (ih _ ?_) (by simp; omega)
      simp only
      split
      · split
        · omega
        · split <;> omega
      · omega
  simpa using this l (0, 0) (Nat.le_refl _)
/-- A span. -/
structure SpV where
  t : Int
  n : Int
def SpV.cells (x : SpV) : List SV := [.int .i64 x.t, .int .i64 x.n]
theorem SpV.len (x : SpV) : x.cells.length = 2 := nrfl rfl
/-- All spans of so many entries. -/
def spansN (l : List EnV) : Nat → List SpV
  | 0 => []
  | i + 1 => match l[i]? with
    | some e => if e.k = 3 ∧ 0 < scanS e.t (l.take i) then spansN l i ++ [⟨e.t, (i : Int) + 2 - (scanS e.t (l.take i) : Nat)⟩] else spansN l i
    | none => spansN l i
theorem spansN_len (l : List EnV) : ∀ i, (spansN l i).length ≤ i
  | 0 => by simp [spansN]
  | i + 1 => by
    have := spansN_len l i
    unfold spansN
    split
    · split
      · simp; omega
      · omega
    · omega
end Go.AM
