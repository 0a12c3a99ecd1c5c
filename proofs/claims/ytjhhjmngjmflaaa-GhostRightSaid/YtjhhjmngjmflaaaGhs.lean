/- Logs: their values, and what an entry does to them. Conditions: none. -/
import Derived.Test.YtjhhjmngjmflaaaMoV
import Derived.Test.YtjhhjmngjmflaaaMn1
set_option linter.unusedVariables false
set_option linter.unusedSimpArgs false
namespace Go.AM
/-- An entry. -/
structure EnV where
  kd : Int
  th : Int
  nm : Int
  ok : Int
  oo : Int
  oa : Int
  ev : EvV
  vl : Int
  er : Int
def EnV.cells (x : EnV) : List SV := [.int .i64 x.kd, .int .i64 x.th, .int .i64 x.nm, .int .i64 x.ok, .int .i64 x.oo, .int .i64 x.oa, .int .i64 x.ev.k, .int .i64 x.ev.t, .int .i64 x.ev.o, .int .i64 x.ev.a, .int .i64 x.ev.e, .int .i64 x.vl, .int .i64 x.er]
theorem EnV.len (x : EnV) : x.cells.length = 13 := nrfl rfl
theorem EnV.c0 (x : EnV) : x.cells[0]? = some (.int .i64 x.kd) := nrfl rfl
theorem EnV.c1 (x : EnV) : x.cells[1]? = some (.int .i64 x.th) := nrfl rfl
theorem EnV.c2 (x : EnV) : x.cells[2]? = some (.int .i64 x.nm) := nrfl rfl
theorem EnV.c3 (x : EnV) : x.cells[3]? = some (.int .i64 x.ok) := nrfl rfl
theorem EnV.c4 (x : EnV) : x.cells[4]? = some (.int .i64 x.oo) := nrfl rfl
theorem EnV.c5 (x : EnV) : x.cells[5]? = some (.int .i64 x.oa) := nrfl rfl
theorem EnV.c6 (x : EnV) : x.cells[6]? = some (.int .i64 x.ev.k) := nrfl rfl
theorem EnV.c7 (x : EnV) : x.cells[7]? = some (.int .i64 x.ev.t) := nrfl rfl
theorem EnV.c11 (x : EnV) : x.cells[11]? = some (.int .i64 x.vl) := nrfl rfl
theorem EnV.c12 (x : EnV) : x.cells[12]? = some (.int .i64 x.er) := nrfl rfl
theorem EnV.op (x : EnV) : (x.cells.drop 3).take 3 = [.int .i64 x.ok, .int .i64 x.oo, .int .i64 x.oa] := nrfl rfl
theorem EnV.vs (x : EnV) : (x.cells.drop 6).take 5 = x.ev.cells := nrfl rfl
theorem EnV.fr (x : EnV) : (freeA (.v (.ag x.cells))).isSome = true := nrfl rfl
/-- What one does: its operation, how many it called, whether one is open, how many commits of it there were, the last one. -/
structure ThV where
  ok : Int
  oo : Int
  oa : Int
  cl : Int
  op : Bool
  mn : Int
  ls : EvV
def ThV.cells (x : ThV) : List SV := [.int .i64 x.ok, .int .i64 x.oo, .int .i64 x.oa, .int .i64 x.cl, .bool x.op, .int .i64 x.mn, .int .i64 x.ls.k, .int .i64 x.ls.t, .int .i64 x.ls.o, .int .i64 x.ls.a, .int .i64 x.ls.e]
theorem ThV.len (x : ThV) : x.cells.length = 11 := nrfl rfl
theorem ThV.c0 (x : ThV) : x.cells[0]? = some (.int .i64 x.ok) := nrfl rfl
theorem ThV.c1 (x : ThV) : x.cells[1]? = some (.int .i64 x.oo) := nrfl rfl
theorem ThV.c2 (x : ThV) : x.cells[2]? = some (.int .i64 x.oa) := nrfl rfl
theorem ThV.c3 (x : ThV) : x.cells[3]? = some (.int .i64 x.cl) := nrfl rfl
theorem ThV.c4 (x : ThV) : x.cells[4]? = some (.bool x.op) := nrfl rfl
theorem ThV.c5 (x : ThV) : x.cells[5]? = some (.int .i64 x.mn) := nrfl rfl
theorem ThV.c6 (x : ThV) : x.cells[6]? = some (.int .i64 x.ls.k) := nrfl rfl
theorem ThV.c9 (x : ThV) : x.cells[9]? = some (.int .i64 x.ls.a) := nrfl rfl
theorem ThV.c10 (x : ThV) : x.cells[10]? = some (.int .i64 x.ls.e) := nrfl rfl
theorem ThV.fr (x : ThV) : (freeA (.v (.ag x.cells))).isSome = true := nrfl rfl
def noEv : EvV := ⟨0, 0, 0, 0, 0⟩
def noTh : ThV := ⟨0, 0, 0, 0, false, 0, noEv⟩
/-- The kind of the commit that an operation tells of. -/
def comM (k : Int) : Int :=
  if k = 1 then 1 else if k = 2 then 2 else if k = 3 then 3 else if k = 4 then 6 else if k = 5 then 8 else if k = 6 then 9 else if k = 7 then 10 else if k = 8 then 11 else if k = 9 then 12 else 0
theorem comM_in {k : Int} : comM k ≠ 0 ↔ 1 ≤ k ∧ k ≤ 9 := by
  unfold comM
  repeat' split
  all_goals omega
def ofT (t : ThV) (e : EvV) : Prop := if t.ok = 9 then e.o = 0 ∧ e.a = t.oa else e.o = t.oo
instance (t : ThV) (e : EvV) : Decidable (ofT t e) := by unfold ofT; infer_instance
def waitsT (t : ThV) (e : EvV) : Prop :=
  if t.mn = 0 then e.k = 4 else if t.ls.k = 4 ∧ t.ls.e = 0 then e.k = 5 ∨ e.k = 6 else t.ls.k = 5 ∧ e.k = 6
instance (t : ThV) (e : EvV) : Decidable (waitsT t e) := by unfold waitsT; infer_instance
def tellsT (t : ThV) (e : EvV) : Prop :=
  if t.mn > 0 ∧ t.ls.k ≠ 7 then False else if e.k = 7 then t.ok = 6 ∨ ¬ t.mn > 0 else if e.k ≠ comM t.ok then False
  else if t.ok = 6 then True else if t.mn > 0 then e.a = t.ls.a else e.a = -1
instance (t : ThV) (e : EvV) : Decidable (tellsT t e) := by unfold tellsT; infer_instance
def takesT (t : ThV) (e : EvV) : Prop :=
  if t.op = false ∨ ¬ ofT t e then False else if t.ok = 4 then waitsT t e else if t.ok = 5 ∨ t.ok = 6 then tellsT t e else t.mn = 0 ∧ e.k = comM t.ok
instance (t : ThV) (e : EvV) : Decidable (takesT t e) := by unfold takesT; infer_instance
/-- An operation is over: what it tells. -/
def doneT (t : ThV) : Prop := t.op = true ∧ t.mn ≠ 0 ∧ (t.ls.k = comM t.ok ∨ t.ok = 4 ∧ t.ls.k = 4 ∧ t.ls.e ≠ 0)
def numT (t : ThV) : Int := if t.ok = 4 then 0 else if t.ok = 6 then t.mn - 1 else if t.ok = 5 ∨ t.ok = 7 ∨ t.ok = 8 then t.ls.a else 0
instance (t : ThV) : Decidable (doneT t) := by unfold doneT; infer_instance
/-- An entry has nothing but what counts. -/
def bareE (x : EnV) : Prop :=
  if x.kd = 1 then x.ev = noEv ∧ x.vl = 0 ∧ x.er = 0
  else if x.kd = 2 then x.th = x.ev.t ∧ x.nm = 0 ∧ x.ok = 0 ∧ x.oo = 0 ∧ x.oa = 0 ∧ x.vl = 0 ∧ x.er = 0
  else if x.kd = 3 then x.ok = 0 ∧ x.oo = 0 ∧ x.oa = 0 ∧ x.ev = noEv
  else False
instance : DecidableEq EvV := fun a b => decidable_of_iff (a.k = b.k ∧ a.t = b.t ∧ a.o = b.o ∧ a.a = b.a ∧ a.e = b.e) ⟨fun h => by
  cases a; cases b; simp only at h; simp only [EvV.mk.injEq]; exact h, fun h => by subst h; exact ⟨rfl, rfl, rfl, rfl, rfl⟩⟩
instance (x : EnV) : Decidable (bareE x) := by unfold bareE; infer_instance
/-- An operation may be. -/
def mayO (objs n ok oo oa : Int) : Prop := (1 ≤ ok ∧ ok ≤ 9) ∧ (0 ≤ oo ∧ oo < objs) ∧ 0 ≤ oa ∧ (if ok = 9 then oa < n else ok = 4 ∨ oa = 0)
instance (objs n ok oo oa : Int) : Decidable (mayO objs n ok oo oa) := by unfold mayO; infer_instance
/-- A log. -/
structure LgV where
  objs : Int
  V : MdV
  ths : List ThV
  ents : List EnV
def addT (G : LgV) (t : ThV) (x : EnV) : Option (MdV × ThV) :=
  if x.kd = 1 then (if t.op = true ∨ x.nm ≠ t.cl ∨ ¬ mayO G.objs G.ths.length x.ok x.oo x.oa then none else some (G.V, ⟨x.ok, x.oo, x.oa, t.cl + 1, true, 0, noEv⟩))
  else if x.kd = 2 then (if takesT t x.ev then (AppV G.V x.ev).map fun W => (W, { t with mn := t.mn + 1, ls := x.ev }) else none)
  else if doneT t ∧ x.nm = t.cl - 1 ∧ x.vl = numT t ∧ x.er = t.ls.e then some (G.V, { noTh with cl := t.cl }) else none
def addL (G : LgV) (x : EnV) : Option LgV :=
  if bareE x ∧ 0 ≤ x.th ∧ x.th < G.ths.length then
    (addT G (G.ths.getD x.th.toNat noTh) x).map fun p => { G with V := p.1, ths := G.ths.set x.th.toNat p.2, ents := G.ents ++ [x] }
  else none
end Go.AM
/- Logs: what stays true of them; calls, commits and returns in turn. Conditions: none. -/
set_option linter.unusedVariables false
set_option linter.unusedSimpArgs false
namespace Go.AM
/-- What stays true of a log of n threads. -/
structure LgI (n m : Nat) (c : Int) (G : LgV) : Prop where
  I : MdI n m c G.V
  ob : G.objs = m
  tn : G.ths.length = n
  cl : ∀ (i : Nat) t, G.ths[i]? = some t → (0 ≤ t.cl ∧ t.cl ≤ G.ents.length) ∧ (0 ≤ t.mn ∧ t.mn ≤ G.ents.length)
  ok : ∀ (i : Nat) t, G.ths[i]? = some t → t.op = true → 1 ≤ t.ok ∧ t.ok ≤ 9
def newL (n m : Nat) (c : Int) : LgV := ⟨m, ⟨c, List.replicate m ⟨-1, 0, 0⟩, List.replicate n false, [], []⟩, List.replicate n noTh, []⟩
theorem newL_I {n m : Nat} {c : Int} (hn : n ≤ 8) (hm : m ≤ 8) (hc : 1 ≤ c ∧ c ≤ 60) : LgI n m c (newL n m c) where
  I := newV_I hn hm hc
  ob := rfl
  tn := List.length_replicate
  cl := fun i t h => by
    have := List.mem_of_getElem? h
    unfold newL at this
    simp only [List.mem_replicate] at this
    rw [this.2]; exact ⟨⟨Int.le_refl _, Int.natCast_nonneg _⟩, Int.le_refl _, Int.natCast_nonneg _⟩
  ok := fun i t h ho => by
    have := List.mem_of_getElem? h
    unfold newL at this
    simp only [List.mem_replicate] at this
    rw [this.2] at ho; cases ho
/-- What an entry that is taken does. -/
theorem addL_some {G G' : LgV} {x : EnV} (h : addL G x = some G') : ∃ t W t', (0 ≤ x.th ∧ x.th < G.ths.length) ∧ bareE x ∧ G.ths[x.th.toNat]? = some t ∧ addT G t x = some (W, t') ∧ G' = { G with V := W, ths := G.ths.set x.th.toNat t', ents := G.ents ++ [x] } := by
  unfold addL at h
  split at h
  · rename_i hc
    obtain ⟨t, ht⟩ : ∃ t, G.ths[x.th.toNat]? = some t := ⟨_, List.getElem?_eq_getElem (by omega)⟩
    have hg : G.ths.getD x.th.toNat noTh = t := by rw [List.getD_eq_getElem?_getD, ht]; rfl
    rw [hg] at h
    cases ha : addT G t x with
    | none => rw [ha] at h; cases h
    | some p =>
      rw [ha] at h
      exact ⟨t, p.1, p.2, hc.2, hc.1, ht, ha, (Option.some.inj h).symm⟩
  · cases h
theorem addT_cases {G : LgV} {t t' : ThV} {x : EnV} {W : MdV} (h : addT G t x = some (W, t')) :
    (x.kd = 1 ∧ t.op = false ∧ x.nm = t.cl ∧ mayO G.objs G.ths.length x.ok x.oo x.oa ∧ W = G.V ∧ t' = ⟨x.ok, x.oo, x.oa, t.cl + 1, true, 0, noEv⟩) ∨
    (x.kd = 2 ∧ takesT t x.ev ∧ AppV G.V x.ev = some W ∧ t' = { t with mn := t.mn + 1, ls := x.ev }) ∨
    (x.kd ≠ 1 ∧ x.kd ≠ 2 ∧ doneT t ∧ x.nm = t.cl - 1 ∧ x.vl = numT t ∧ x.er = t.ls.e ∧ W = G.V ∧ t' = { noTh with cl := t.cl }) := by
  unfold addT at h
  split at h
  · rename_i h1
    split at h
    · cases h
    · rename_i hn
      have e := Option.some.inj h
      refine .inl ⟨h1, ?_, ?_, ?_, (congrArg Prod.fst e).symm, (congrArg Prod.snd e).symm⟩
      · cases ho : t.op
        · rfl
        · exact absurd (.inl ho) hn
      · exact Decidable.byContradiction fun q => hn (.inr (.inl q))
      · exact Decidable.byContradiction fun q => hn (.inr (.inr q))
  · rename_i h1
    split at h
    · rename_i h2
      split at h
      · rename_i h3
        cases ha : AppV G.V x.ev with
        | none => rw [ha] at h; cases h
        | some W' =>
          rw [ha] at h
          have e := Option.some.inj h
          have e1 : W' = W := congrArg Prod.fst e
          subst e1
          exact .inr (.inl ⟨h2, h3, rfl, (congrArg Prod.snd e).symm⟩)
      · cases h
    · rename_i h2
      split at h
      · rename_i h3
        have e := Option.some.inj h
        exact .inr (.inr ⟨h1, h2, h3.1, h3.2.1, h3.2.2.1, h3.2.2.2, (congrArg Prod.fst e).symm, (congrArg Prod.snd e).symm⟩)
      · cases h
theorem LgI.add {n m : Nat} {c : Int} {G G' : LgV} (H : LgI n m c G) (hc : 1 ≤ c ∧ c ≤ 60) {x : EnV} (h : addL G x = some G') : LgI n m c G' := by
  obtain ⟨t, W, t', hr, hb, ht, ha, rfl⟩ := addL_some h
  have h1 := H.cl _ t ht
  have key : ∀ (i : Nat) u, (G.ths.set x.th.toNat t')[i]? = some u → (u = t' ∧ i = x.th.toNat) ∨ G.ths[i]? = some u := fun i u hu => by
    rw [List.getElem?_set] at hu
    split at hu
    · split at hu
      · rename_i e _; exact .inl ⟨(Option.some.inj hu).symm, e.symm⟩
      · cases hu
    · exact .inr hu
  have hW : MdI n m c W ∧ ((0 ≤ t'.cl ∧ t'.cl ≤ G.ents.length + 1) ∧ (0 ≤ t'.mn ∧ t'.mn ≤ G.ents.length + 1)) ∧ (t'.op = true → 1 ≤ t'.ok ∧ t'.ok ≤ 9) := by
    rcases addT_cases ha with ⟨_, _, _, k4, rfl, rfl⟩ | ⟨_, k2, k3, rfl⟩ | ⟨_, _, k3, _, _, _, rfl, rfl⟩
    · exact ⟨H.I, ⟨⟨by simp only; omega, by simp only; omega⟩, by simp only; omega, by simp only; omega⟩, fun _ => k4.1⟩
    · have := H.I.next hc x.ev
      unfold nextM at this
      rw [k3] at this
      exact ⟨this, ⟨⟨by simp only; omega, by simp only; omega⟩, by simp only; omega, by simp only; omega⟩, fun ho => H.ok _ t ht ho⟩
    · exact ⟨H.I, ⟨⟨by simp only [noTh]; omega, by simp only [noTh]; omega⟩, by simp only [noTh]; omega, by simp only [noTh]; omega⟩, fun ho => by cases ho⟩
  refine ⟨hW.1, H.ob, by simp only [List.length_set]; exact H.tn, fun i u hu => ?_, fun i u hu ho => ?_⟩
  · simp only [List.length_append, List.length_cons, List.length_nil]
    rcases key i u hu with ⟨rfl, _⟩ | hu
    · have := hW.2.1; omega
    · have := H.cl i u hu; omega
  · rcases key i u hu with ⟨rfl, _⟩ | hu
    · exact hW.2.2 ho
    · exact H.ok i u hu ho
/-- What the law keeps of each thread: whether it called, how often, how many commits. -/
structure TrV where
  op : List Bool
  cl : List Int
  cm : List Int
def noTr : TrV := ⟨[false, false, false, false], [0, 0, 0, 0], [0, 0, 0, 0]⟩
def trnT (s : TrV) (x : EnV) : Option TrV :=
  if 0 ≤ x.th ∧ x.th ≤ 3 then
    (if x.kd = 1 then (if s.op.getD x.th.toNat false = true ∨ x.nm ≠ s.cl.getD x.th.toNat 0 then none else some ⟨s.op.set x.th.toNat true, s.cl.set x.th.toNat (s.cl.getD x.th.toNat 0 + 1), s.cm.set x.th.toNat 0⟩)
    else if x.kd = 2 then (if s.op.getD x.th.toNat false = true then some ⟨s.op, s.cl, s.cm.set x.th.toNat (s.cm.getD x.th.toNat 0 + 1)⟩ else none)
    else if s.op.getD x.th.toNat false = true ∧ s.cm.getD x.th.toNat 0 ≠ 0 ∧ x.nm = s.cl.getD x.th.toNat 0 - 1 then some ⟨s.op.set x.th.toNat false, s.cl, s.cm⟩ else none)
  else none
def trnAll : TrV → List EnV → Option TrV
  | s, [] => some s
  | s, x :: l => (trnT s x).bind fun s' => trnAll s' l
theorem trnAll_snoc : ∀ (l : List EnV) (s : TrV) (x : EnV), trnAll s (l ++ [x]) = (trnAll s l).bind fun s' => trnT s' x
  | [], s, x => by
    show (trnT s x).bind (fun s' => some s') = trnT s x
    cases trnT s x <;> rfl
  | y :: l, s, x => by
    show (trnT s y).bind _ = ((trnT s y).bind _).bind _
    cases h : trnT s y with
    | none => rfl
    | some s' => exact trnAll_snoc l s' x
/-- What the law keeps is what the log has. -/
structure TrM (G : LgV) (s : TrV) : Prop where
  l1 : s.op.length = 4
  l2 : s.cl.length = 4
  l3 : s.cm.length = 4
  op : ∀ (i : Nat) t, G.ths[i]? = some t → s.op.getD i false = t.op
  cl : ∀ (i : Nat) t, G.ths[i]? = some t → s.cl.getD i 0 = t.cl
  cm : ∀ (i : Nat) t, G.ths[i]? = some t → t.op = true → s.cm.getD i 0 = t.mn
theorem getD_set {α : Type} (l : List α) (i j : Nat) (v d : α) (h : i < l.length) : (l.set i v).getD j d = if i = j then v else l.getD j d := by
  rw [List.getD_eq_getElem?_getD, List.getD_eq_getElem?_getD, List.getElem?_set]
  by_cases e : i = j
  · rw [if_pos e, if_pos e, if_pos h]; rfl
  · rw [if_neg e, if_neg e]
/-- Entries that a log took, taken in turn. -/
def Turns (G : LgV) : Prop := ∃ s, trnAll noTr G.ents = some s ∧ TrM G s
theorem Turns.new (m : Nat) (c : Int) : Turns (newL 4 m c) := by
  refine ⟨noTr, rfl, rfl, rfl, rfl, ?_, ?_, ?_⟩
  all_goals
    intro i t h
    have := List.mem_of_getElem? h
    have hi : i < 4 := by
      have := (List.getElem?_eq_some_iff.1 h).1
      unfold newL at this
      simpa using this
    unfold newL at this
    simp only [List.mem_replicate] at this
    rw [this.2]
    rcases (show i = 0 ∨ i = 1 ∨ i = 2 ∨ i = 3 by omega) with rfl | rfl | rfl | rfl <;> first | rfl | exact fun _ => rfl
theorem Turns.add {G G' : LgV} {x : EnV} (H : Turns G) (hn : G.ths.length = 4) (h : addL G x = some G') : Turns G' := by
  obtain ⟨s, hs, M⟩ := H
  obtain ⟨t, W, t', hr, hb, ht, ha, rfl⟩ := addL_some h
  have h1 := M.op _ t ht
  have h2 := M.cl _ t ht
  have h3 := M.cm _ t ht
  have hth : 0 ≤ x.th ∧ x.th ≤ 3 := by omega
  have hi : x.th.toNat < 4 := by omega
  have l1 := M.l1
  have l2 := M.l2
  have l3 := M.l3
  have key : ∀ (i : Nat) u, (G.ths.set x.th.toNat t')[i]? = some u → (u = t' ∧ i = x.th.toNat) ∨ (i ≠ x.th.toNat ∧ G.ths[i]? = some u) := fun i u hu => by
    rw [List.getElem?_set] at hu
    split at hu
    · split at hu
      · rename_i e _; exact .inl ⟨(Option.some.inj hu).symm, e.symm⟩
      · cases hu
    · rename_i e; exact .inr ⟨fun q => e q.symm, hu⟩
  have fin : ∀ s', trnT s x = some s' → TrM { G with V := W, ths := G.ths.set x.th.toNat t', ents := G.ents ++ [x] } s' → Turns { G with V := W, ths := G.ths.set x.th.toNat t', ents := G.ents ++ [x] } := fun s' hs' hM => ⟨s', by
    show trnAll noTr (G.ents ++ [x]) = some s'
    rw [trnAll_snoc, hs]; exact hs', hM⟩
  rcases addT_cases ha with ⟨k1, k2, k3, k4, rfl, rfl⟩ | ⟨k1, k2, k3, rfl⟩ | ⟨k1, k2, k3, k4, k5, k6, rfl, rfl⟩
  · refine fin ⟨s.op.set x.th.toNat true, s.cl.set x.th.toNat (s.cl.getD x.th.toNat 0 + 1), s.cm.set x.th.toNat 0⟩ ?_ ⟨by simp [l1], by simp [l2], by simp [l3], ?_, ?_, ?_⟩
    · unfold trnT
      rw [if_pos hth, if_pos k1, if_neg (by rw [h1, h2, k2, k3]; simp)]
    · intro i u hu
      simp only
      rw [getD_set _ _ _ _ _ (by omega)]
      rcases key i u hu with ⟨rfl, rfl⟩ | ⟨q, hu⟩
      · rw [if_pos rfl]
      · rw [if_neg (Ne.symm q)]; exact M.op i u hu
    · intro i u hu
      simp only
      rw [getD_set _ _ _ _ _ (by omega)]
      rcases key i u hu with ⟨rfl, rfl⟩ | ⟨q, hu⟩
      · rw [if_pos rfl, h2]
      · rw [if_neg (Ne.symm q)]; exact M.cl i u hu
    · intro i u hu ho
      simp only
      rw [getD_set _ _ _ _ _ (by omega)]
      rcases key i u hu with ⟨rfl, rfl⟩ | ⟨q, hu⟩
      · rw [if_pos rfl]
      · rw [if_neg (Ne.symm q)]; exact M.cm i u hu ho
  · have hop : t.op = true := by
      unfold takesT at k2
      split at k2
      · exact k2.elim
      · rename_i hn; cases ho : t.op
        · exact absurd (.inl ho) hn
        · rfl
    refine fin ⟨s.op, s.cl, s.cm.set x.th.toNat (s.cm.getD x.th.toNat 0 + 1)⟩ ?_ ⟨l1, l2, by simp [l3], ?_, ?_, ?_⟩
    · unfold trnT
      rw [if_pos hth, if_neg (by omega), if_pos k1, if_pos (by rw [h1, hop])]
    · intro i u hu
      rcases key i u hu with ⟨rfl, rfl⟩ | ⟨q, hu⟩
      · exact h1
      · exact M.op i u hu
    · intro i u hu
      rcases key i u hu with ⟨rfl, rfl⟩ | ⟨q, hu⟩
      · exact h2
      · exact M.cl i u hu
    · intro i u hu ho
      simp only
      rw [getD_set _ _ _ _ _ (by omega)]
      rcases key i u hu with ⟨rfl, rfl⟩ | ⟨q, hu⟩
      · rw [if_pos rfl, h3 hop]
      · rw [if_neg (Ne.symm q)]; exact M.cm i u hu ho
  · have hop := k3.1
    refine fin ⟨s.op.set x.th.toNat false, s.cl, s.cm⟩ ?_ ⟨by simp [l1], l2, l3, ?_, ?_, ?_⟩
    · unfold trnT
      rw [if_pos hth, if_neg k1, if_neg k2, if_pos ⟨by rw [h1, hop], by rw [h3 hop]; exact k3.2.1, by rw [h2]; exact k4⟩]
    · intro i u hu
      simp only
      rw [getD_set _ _ _ _ _ (by omega)]
      rcases key i u hu with ⟨rfl, rfl⟩ | ⟨q, hu⟩
      · rw [if_pos rfl]; rfl
      · rw [if_neg (Ne.symm q)]; exact M.op i u hu
    · intro i u hu
      rcases key i u hu with ⟨rfl, rfl⟩ | ⟨q, hu⟩
      · exact h2
      · exact M.cl i u hu
    · intro i u hu ho
      rcases key i u hu with ⟨rfl, rfl⟩ | ⟨q, hu⟩
      · cases ho
      · exact M.cm i u hu ho
end Go.AM
/- Logs: how many entries are right together; the document's threads. Conditions: none. -/
set_option linter.unusedVariables false
set_option linter.unusedSimpArgs false
namespace Go.AM
/-- All are taken. -/
def addAll : LgV → List EnV → Option LgV
  | G, [] => some G
  | G, x :: l => (addL G x).bind fun G' => addAll G' l
/-- How many are taken, one after the other. -/
def manyL : LgV → List EnV → Nat
  | _, [] => 0
  | G, x :: l => match addL G x with
    | some G' => manyL G' l + 1
    | none => 0
theorem addAll_snoc : ∀ (l : List EnV) (G : LgV) (x : EnV), addAll G (l ++ [x]) = (addAll G l).bind fun G' => addL G' x
  | [], G, x => by
    show (addL G x).bind (fun s' => some s') = addL G x
    cases addL G x <;> rfl
  | y :: l, G, x => by
    show (addL G y).bind _ = ((addL G y).bind _).bind _
    cases h : addL G y with
    | none => rfl
    | some G' => exact addAll_snoc l G' x
theorem many_all : ∀ (l : List EnV) (G G' : LgV), addAll G l = some G' → manyL G l = l.length
  | [], _, _, _ => rfl
  | x :: l, G, G', h => by
    unfold addAll at h
    unfold manyL
    cases hx : addL G x with
    | none => rw [hx] at h; cases h
    | some G1 =>
      rw [hx] at h
      simp only [List.length_cons, many_all l G1 G' h]
theorem many_stop : ∀ (l : List EnV) (G G' : LgV) (i : Nat) (x : EnV), addAll G (l.take i) = some G' → l[i]? = some x → addL G' x = none → manyL G l = i
  | [], _, _, _, _, _, h, _ => by cases h
  | y :: l, G, G', 0, x, h, hx, hn => by
    obtain rfl : G = G' := Option.some.inj h
    obtain rfl : y = x := Option.some.inj hx
    unfold manyL
    rw [hn]
  | y :: l, G, G', i + 1, x, h, hx, hn => by
    rw [List.take_succ_cons] at h
    unfold addAll at h
    unfold manyL
    cases hy : addL G y with
    | none => rw [hy] at h; cases h
    | some G1 =>
      rw [hy] at h
      simp only [many_stop l G1 G' i x h hx hn]
theorem many_le : ∀ (l : List EnV) (G : LgV), manyL G l ≤ l.length
  | [], _ => Nat.le_refl _
  | x :: l, G => by
    unfold manyL
    cases addL G x with
    | none => exact Nat.zero_le _
    | some G1 => exact Nat.succ_le_succ (many_le l G1)
theorem many_take : ∀ (l : List EnV) (G : LgV) (k : Nat), k ≤ manyL G l → manyL G (l.take k) = k
  | [], G, k, h => by
    have : k = 0 := Nat.le_zero.1 h
    subst this; rfl
  | x :: l, G, 0, h => rfl
  | x :: l, G, k + 1, h => by
    rw [List.take_succ_cons]
    unfold manyL at h ⊢
    cases hx : addL G x with
    | none => rw [hx] at h; exact absurd h (by simp)
    | some G1 =>
      rw [hx] at h
      simp only [many_take l G1 k (by simp only at h; omega)]
/-- The document's thread. -/
structure AtV where
  cl : Int
  op : Bool
  ok : Int
  oo : Int
  oa : Int
  L : List EvV
/-- A thread is the document's. -/
structure AtM (t : ThV) (a : AtV) : Prop where
  cl : t.cl = a.cl
  op : t.op = a.op
  ok : t.ok = a.ok
  oo : t.oo = a.oo
  oa : t.oa = a.oa
  mn : t.mn = a.L.length
  ls : ∀ e, a.L.getLast? = some e → t.ls = e
  kn : a.L ≠ [] → t.ok ≠ 4 → t.ok ≠ 5 → t.ok ≠ 6 → t.ls.k = comM t.ok
theorem AtM.call {t : ThV} {a : AtV} (H : AtM t a) (ok oo oa : Int) : AtM ⟨ok, oo, oa, t.cl + 1, true, 0, noEv⟩ ⟨a.cl + 1, true, ok, oo, oa, []⟩ where
  cl := by simp only [H.cl]
  op := rfl
  ok := rfl
  oo := rfl
  oa := rfl
  mn := rfl
  ls := fun e h => by cases h
  kn := fun h => absurd rfl h
theorem AtM.back {t : ThV} {a : AtV} (H : AtM t a) : AtM { noTh with cl := t.cl } ⟨a.cl, false, 0, 0, 0, []⟩ where
  cl := H.cl
  op := rfl
  ok := rfl
  oo := rfl
  oa := rfl
  mn := rfl
  ls := fun e h => by cases h
  kn := fun h => absurd rfl h
theorem AtM.more {t : ThV} {a : AtV} (H : AtM t a) {e : EvV} (hk : takesT t e) : AtM { t with mn := t.mn + 1, ls := e } { a with L := a.L ++ [e] } where
  cl := H.cl
  op := H.op
  ok := H.ok
  oo := H.oo
  oa := H.oa
  mn := by simp only [H.mn, List.length_append, List.length_cons, List.length_nil]; omega
  ls := fun e' h => by simp only [List.getLast?_append, List.getLast?_singleton, Option.some_or, Option.some.injEq] at h; exact h
  kn := fun _ h4 h5 h6 => by
    simp only at h4 h5 h6 ⊢
    unfold takesT at hk
    split at hk
    · exact hk.elim
    · rw [if_neg (by omega)] at hk
      exact hk.2
end Go.AM
