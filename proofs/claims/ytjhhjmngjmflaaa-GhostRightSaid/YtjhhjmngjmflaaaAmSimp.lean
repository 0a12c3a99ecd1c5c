/- The abstract machine: rules by which runs are written out. Conditions: none. -/
import Derived.Test.YtjhhjmngjmflaaaAmRun
import Derived.KernelRfl
set_option linter.unusedVariables false
set_option linter.unusedSimpArgs false
namespace Go.AM
/-- An equation that rewriting must not take for a definition's. -/
theorem nrfl {α : Type} {a b : α} (h : a = b) : a = b := h
section
variable {P : Program} {E : Ext} {lk : Nat} {ops : Array Oper} {rest : List Oper} {e : List AV} {h : List AO} {K : List AV → List AO → Res} {KQ : List AV → Res}
variable {d : Option Tmp} {ty : TypeId} {pos : String} {af : Array Edge} {gd : Option (Nat × Bool)}

/-- A term that rewriting leaves alone: what depends on it says so. -/
structure Dum {α : Type} (x : α) : Type where
def Hd {α : Type} (x : α) (dm : Dum x) : α := x
/-- Go on, once slots and heap are written out. -/
def goA (e : List AV) (h : List AO) (k : List AV → List AO → Res) : Res := k e h
theorem goA_eq (e : List AV) (h : List AO) (k : List AV → List AO → Res) : goA e h k = k e h := nrfl rfl
/-- One operation that is carried out. -/
def step1 (P : Program) (E : Ext) (lk : Nat) (o : Oper) (e : List AV) (h : List AO) (k : AV → List AO → Res) : Res := (stepA P E lk o e h).bind fun r => k r.1 r.2
/-- A choice. -/
def condB (q : Bool) (x y : Unit → Res) : Res := bif q then x () else y ()
theorem condB_true (x y : Unit → Res) : condB true x y = x () := nrfl rfl
theorem condB_false (x y : Unit → Res) : condB false x y = y () := nrfl rfl
def condA (v : AV) (x y : Unit → Res) : Res := match v with | .v (.sc (.bool q)) => condB q x y | _ => none
theorem condA_v (q : Bool) (x y : Unit → Res) : condA (.v (.sc (.bool q))) x y = condB q x y := nrfl rfl
/-- Guards, taken apart. -/
def guarded (ops : Array Oper) (e : List AV) (gd : Option (Nat × Bool)) (yes no : Unit → Res) : Res :=
  match gd with
  | none => yes ()
  | some (j, want) =>
    match (ops[j]?).bind (·.dst) with
    | some d => match e[d]? with | some (.v (.sc (.bool b))) => condB (b == want) yes no | some .sk => no () | _ => none
    | none => no ()
/-- What comes behind, by name. -/
def opsC (P : Program) (E : Ext) (lk : Nat) (ops : Array Oper) (l : List Oper) (K : List AV → List AO → Res) : List AV → List AO → Res := fun e h => opsA P E lk ops l e h K
def opsK (P : Program) (E : Ext) (lk : Nat) (ops : Array Oper) (d : Option Tmp) (rest : List Oper) (e : List AV) (K : List AV → List AO → Res) : AV → List AO → Res := fun v h => opsA P E lk ops rest (setD e d v) h K
def opsT (P : Program) (E : Ext) (lk : Nat) (ops : Array Oper) (rest : List Oper) (e : List AV) (h : List AO) (K : List AV → List AO → Res) : Unit → Res := fun _ => opsA P E lk ops rest e h K
def stepT (P : Program) (E : Ext) (lk : Nat) (o : Oper) (e : List AV) (h : List AO) (k : AV → List AO → Res) : Unit → Res := fun _ => step1 P E lk o e h k
def withH (k : AV → List AO → Res) (h : List AO) : AV → Res := fun v => k v h
section
variable {d1 : Dum ops} {d2 : Dum rest} {d3 : Dum K}
theorem opsC_app : opsC P E lk (Hd ops d1) (Hd rest d2) (Hd K d3) e h = opsA P E lk ops rest e h K := nrfl rfl
theorem opsK_app (v : AV) : opsK P E lk (Hd ops d1) d (Hd rest d2) e (Hd K d3) v h = goA (setD e d v) h (opsC P E lk (Hd ops d1) (Hd rest d2) (Hd K d3)) := nrfl rfl
theorem opsT_app : opsT P E lk (Hd ops d1) (Hd rest d2) e h (Hd K d3) () = goA e h (opsC P E lk (Hd ops d1) (Hd rest d2) (Hd K d3)) := nrfl rfl
theorem stepT_app (o : Oper) (d4 : Dum o) (k : AV → List AO → Res) : stepT P E lk (Hd o d4) e h k () = step1 P E lk o e h k := nrfl rfl
end
theorem withH_app (k : AV → List AO → Res) (v : AV) : withH k h v = k v h := nrfl rfl
theorem ops_cons (o : Oper) : opsA P E lk ops (o :: rest) e h K = guarded ops e o.guard (stepT P E lk (Hd o ⟨⟩) e h (opsK P E lk (Hd ops ⟨⟩) o.dst (Hd rest ⟨⟩) e (Hd K ⟨⟩))) (opsT P E lk (Hd ops ⟨⟩) (Hd rest ⟨⟩) (setD e o.dst .sk) h (Hd K ⟨⟩)) := by
  simp only [opsA, wantedA, guarded, step1, condB, stepT, opsK, opsT, Hd]
  cases o.guard with
  | none => rfl
  | some p =>
    obtain ⟨j, want⟩ := p
    simp only
    cases (ops[j]?).bind (·.dst) with
    | none => rfl
    | some d =>
      simp only
      cases e[d]? with
      | none => rfl
      | some x =>
        cases x with
        | und => rfl
        | sk => rfl
        | tup _ => rfl
        | v c =>
          cases c with
          | ag _ => rfl
          | sc s =>
            cases s <;> first | rfl | (rename_i q; cases q <;> cases want <;> rfl)
theorem ops_nil : opsA P E lk ops [] e h K = K e h := nrfl rfl
def quiet1 (P : Program) (E : Ext) (o : Oper) (e : List AV) (h : List AO) (k : AV → Res) : Res := (quietA P E o e h).bind k
def opsQC (P : Program) (E : Ext) (ops : Array Oper) (l : List Oper) (KQ : List AV → Res) : List AV → List AO → Res := fun e h => opsQ P E ops l e h KQ
def opsQK (P : Program) (E : Ext) (ops : Array Oper) (d : Option Tmp) (rest : List Oper) (e : List AV) (h : List AO) (KQ : List AV → Res) : AV → Res := fun v => opsQ P E ops rest (setD e d v) h KQ
def opsQT (P : Program) (E : Ext) (ops : Array Oper) (rest : List Oper) (e : List AV) (h : List AO) (KQ : List AV → Res) : Unit → Res := fun _ => opsQ P E ops rest e h KQ
def quietT (P : Program) (E : Ext) (o : Oper) (e : List AV) (h : List AO) (k : AV → Res) : Unit → Res := fun _ => quiet1 P E o e h k
section
variable {d1 : Dum ops} {d2 : Dum rest} {d3 : Dum KQ}
theorem opsQC_app : opsQC P E (Hd ops d1) (Hd rest d2) (Hd KQ d3) e h = opsQ P E ops rest e h KQ := nrfl rfl
theorem opsQK_app (v : AV) : opsQK P E (Hd ops d1) d (Hd rest d2) e h (Hd KQ d3) v = goA (setD e d v) h (opsQC P E (Hd ops d1) (Hd rest d2) (Hd KQ d3)) := nrfl rfl
theorem opsQT_app : opsQT P E (Hd ops d1) (Hd rest d2) e h (Hd KQ d3) () = goA e h (opsQC P E (Hd ops d1) (Hd rest d2) (Hd KQ d3)) := nrfl rfl
theorem quietT_app (o : Oper) (d4 : Dum o) (k : AV → Res) : quietT P E (Hd o d4) e h k () = quiet1 P E o e h k := nrfl rfl
end
theorem opsQ_cons (o : Oper) : opsQ P E ops (o :: rest) e h KQ = guarded ops e o.guard (quietT P E (Hd o ⟨⟩) e h (opsQK P E (Hd ops ⟨⟩) o.dst (Hd rest ⟨⟩) e h (Hd KQ ⟨⟩))) (opsQT P E (Hd ops ⟨⟩) (Hd rest ⟨⟩) (setD e o.dst .sk) h (Hd KQ ⟨⟩)) := by
  simp only [opsQ, wantedA, guarded, quiet1, condB, quietT, opsQK, opsQT, Hd]
  cases o.guard with
  | none => rfl
  | some p =>
    obtain ⟨j, want⟩ := p
    simp only
    cases (ops[j]?).bind (·.dst) with
    | none => rfl
    | some d =>
      simp only
      cases e[d]? with
      | none => rfl
      | some x =>
        cases x with
        | und => rfl
        | sk => rfl
        | tup _ => rfl
        | v c =>
          cases c with
          | ag _ => rfl
          | sc s =>
            cases s <;> first | rfl | (rename_i q; cases q <;> cases want <;> rfl)
theorem opsQ_nil : opsQ P E ops [] e h KQ = KQ e := nrfl rfl
theorem guarded_none (y n : Unit → Res) : guarded ops e none y n = y () := nrfl rfl
/-- What a guard looks at. -/
def guardV (x : Option AV) (want : Bool) (y n : Unit → Res) : Res := match x with | some (.v (.sc (.bool b))) => condB (b == want) y n | some .sk => n () | _ => none
theorem guardV_b (b want : Bool) (y n : Unit → Res) : guardV (some (.v (.sc (.bool b)))) want y n = condB (b == want) y n := nrfl rfl
theorem guardV_sk (want : Bool) (y n : Unit → Res) : guardV (some .sk) want y n = n () := nrfl rfl
def slotOf (ops : Array Oper) (e : List AV) (j : Nat) : Option AV := match (ops[j]?).bind (·.dst) with | some d => e[d]? | none => some .sk
theorem slotOf_eq (l : List Oper) (j : Nat) : slotOf l.toArray e j = match (l[j]?).bind (·.dst) with | some d => e[d]? | none => some .sk := by simp only [slotOf, List.getElem?_toArray]
theorem guarded_some (j : Nat) (want : Bool) (y n : Unit → Res) : guarded ops e (some (j, want)) y n = guardV (slotOf ops e j) want y n := by
  simp only [guarded, slotOf]; cases (ops[j]?).bind (·.dst) <;> rfl

def pickA (c x y : AV) : Option AV := match c with | .v (.sc (.bool q)) => some (bif q then x else y) | _ => none
def nilA (x : AV) : Option AV := match x with | .v (.sc (.ptr l i)) => some (.v (.sc (.ptr l i))) | .v (.sc (.fn f a c)) => some (.v (.sc (.fn f a c))) | _ => none
/-- An operation that writes nothing. -/
def pure1 (x : Option AV) (k : AV → Res) : Res := match x with | some v => k v | none => none
theorem pure1_some (v : AV) (k : AV → Res) : pure1 (some v) k = k v := nrfl rfl
section
variable {k : AV → List AO → Res} {kq : AV → Res}
theorem step_pure {o : Oper} (hc : calleeA o e = none) (he : effA P o e lk h = none) : step1 P E lk o e h k = pure1 (pureA P o e h) (withH k h) := by
  unfold step1 stepA pure1
  cases pureA P o e h with
  | some v => rfl
  | none => simp only [hc, he]; rfl
theorem quiet_pure {o : Oper} (hc : calleeA o e = none) : quiet1 P E o e h kq = pure1 (pureA P o e h) kq := by
  unfold quiet1 quietA pure1
  cases pureA P o e h with
  | some v => rfl
  | none => simp only [hc]; rfl
theorem s_move (x : Operand) : step1 P E lk ⟨d, .move x, ty, pos, af, gd⟩ e h k = k (aeval e x) h := nrfl rfl
theorem s_assign (x : Operand) : step1 P E lk ⟨d, .assign x, ty, pos, af, gd⟩ e h k = k (aeval e x) h := nrfl rfl
theorem s_pick (c x y : Operand) : step1 P E lk ⟨d, .pick c x y, ty, pos, af, gd⟩ e h k = pure1 (pickA (aeval e c) (aeval e x) (aeval e y)) (withH k h) := by
  rw [step_pure rfl rfl]; simp only [pureA, pickA]; congr 1; generalize aeval e c = z; cases z with | und => rfl | sk => rfl | tup _ => rfl | v c => (cases c with | ag _ => rfl | sc s => (cases s <;> first | rfl | (rename_i q; cases q <;> rfl)))
theorem s_load (t : TypeId) (x : Operand) : step1 P E lk ⟨d, .load t x, ty, pos, af, gd⟩ e h k = pure1 (loadA P h t (aeval e x)) (withH k h) := step_pure rfl rfl
theorem s_nil (x : Operand) : step1 P E lk ⟨d, .nilCheck x, ty, pos, af, gd⟩ e h k = pure1 (nilA (aeval e x)) (withH k h) := step_pure rfl rfl
theorem s_bin (op : BinOp) (t t' : TypeId) (x y : Operand) : step1 P E lk ⟨d, .binOp op t x y t', ty, pos, af, gd⟩ e h k = pure1 (binOpA P op t (aeval e x) (aeval e y)) (withH k h) := step_pure rfl rfl
theorem s_un (op : UnOp) (t : TypeId) (x : Operand) : step1 P E lk ⟨d, .unOp op t x, ty, pos, af, gd⟩ e h k = pure1 (unOpA op (aeval e x)) (withH k h) := step_pure rfl rfl
theorem s_conv (s t : TypeId) (x : Operand) : step1 P E lk ⟨d, .convert s t x, ty, pos, af, gd⟩ e h k = pure1 (convertA P s t (aeval e x)) (withH k h) := step_pure rfl rfl
theorem s_faddr (t : TypeId) (x : Operand) (f : Nat) : step1 P E lk ⟨d, .fieldAddr t x f, ty, pos, af, gd⟩ e h k = pure1 (fieldAddrA P t (aeval e x) f) (withH k h) := step_pure rfl rfl
theorem s_field (t : TypeId) (x : Operand) (f : Nat) : step1 P E lk ⟨d, .field t x f, ty, pos, af, gd⟩ e h k = pure1 (fieldA P t (aeval e x) f) (withH k h) := step_pure rfl rfl
theorem s_iaddr (t : TypeId) (x i : Operand) : step1 P E lk ⟨d, .indexAddr t x i, ty, pos, af, gd⟩ e h k = pure1 (indexAddrA P t (aeval e x) (aeval e i)) (withH k h) := step_pure rfl rfl
theorem s_index (t : TypeId) (x i : Operand) : step1 P E lk ⟨d, .index t x i, ty, pos, af, gd⟩ e h k = pure1 (indexA P t (aeval e x) (aeval e i)) (withH k h) := step_pure rfl rfl
theorem s_extract (x : Operand) (i : Nat) : step1 P E lk ⟨d, .extract x i, ty, pos, af, gd⟩ e h k = pure1 (extractA (aeval e x) i) (withH k h) := step_pure rfl rfl
theorem s_lookup (t : TypeId) (x i : Operand) (ok : Bool) : step1 P E lk ⟨d, .lookup t x i ok, ty, pos, af, gd⟩ e h k = pure1 (lookupA P h t (aeval e x) (aeval e i) ok) (withH k h) := step_pure rfl rfl
/-- A slice: by its length, or beyond it. -/
def sl1 (x : Option AV) (y : Option (AV × List AO)) (h : List AO) (k : AV → List AO → Res) : Res := match x with | some v => k v h | none => (match y with | some r => k r.1 r.2 | none => none)
theorem sl1_some (v : AV) (y : Option (AV × List AO)) (k : AV → List AO → Res) : sl1 (some v) y h k = k v h := nrfl rfl
theorem sl1_none (r : AV × List AO) (k : AV → List AO → Res) : sl1 none (some r) h k = k r.1 r.2 := nrfl rfl
theorem s_slice (t : TypeId) (x : Operand) (lo hi mx : Option Operand) : step1 P E lk ⟨d, .slice t x lo hi mx, ty, pos, af, gd⟩ e h k = sl1 (sliceA P t (aeval e x) (lo.map (aeval e)) (hi.map (aeval e)) (mx.map (aeval e))) (sliceE P h t (aeval e x) (lo.map (aeval e)) (hi.map (aeval e)) (mx.map (aeval e))) h k := by
  simp only [step1, stepA]
  have e1 : pureA P ⟨d, .slice t x lo hi mx, ty, pos, af, gd⟩ e h = sliceA P t (aeval e x) (lo.map (aeval e)) (hi.map (aeval e)) (mx.map (aeval e)) := rfl
  have e2 : effA P ⟨d, .slice t x lo hi mx, ty, pos, af, gd⟩ e lk h = sliceE P h t (aeval e x) (lo.map (aeval e)) (hi.map (aeval e)) (mx.map (aeval e)) := rfl
  have e3 : calleeA ⟨d, .slice t x lo hi mx, ty, pos, af, gd⟩ e = none := rfl
  rw [e1]
  cases sliceA P t (aeval e x) (lo.map (aeval e)) (hi.map (aeval e)) (mx.map (aeval e)) with
  | some v => rfl
  | none =>
    simp only [e3, e2, sl1]
    cases sliceE P h t (aeval e x) (lo.map (aeval e)) (hi.map (aeval e)) (mx.map (aeval e)) <;> rfl
theorem s_build (t : TypeId) (ps : Array (Nat × Operand)) : step1 P E lk ⟨d, .build t ps, ty, pos, af, gd⟩ e h k = pure1 (buildA P t (ps.toList.map fun p => (p.1, aeval e p.2))) (withH k h) := step_pure rfl rfl
theorem s_func (f : FuncId) (a c : Array Operand) : step1 P E lk ⟨d, .makeFunc (.func f) a c, ty, pos, af, gd⟩ e h k = pure1 ((toSL (a.toList.map (aeval e))).bind fun a => (toSL (c.toList.map (aeval e))).map fun c => .v (.sc (.fn f a c))) (withH k h) := step_pure rfl rfl
theorem s_len (x : Operand) (t : TypeId) : step1 P E lk ⟨d, .call { callee := .builtin .len, args := #[x], argTypes := #[t] }, ty, pos, af, gd⟩ e h k = pure1 (lenA P h t (aeval e x)) (withH k h) := step_pure rfl rfl
theorem s_min (x y : Operand) (ts : Array TypeId) : step1 P E lk ⟨d, .call { callee := .builtin .min, args := #[x, y], argTypes := ts }, ty, pos, af, gd⟩ e h k = pure1 (min2A (aeval e x) (aeval e y)) (withH k h) := step_pure rfl rfl
theorem s_max (x y : Operand) (ts : Array TypeId) : step1 P E lk ⟨d, .call { callee := .builtin .max, args := #[x, y], argTypes := ts }, ty, pos, af, gd⟩ e h k = pure1 (max2A (aeval e x) (aeval e y)) (withH k h) := step_pure rfl rfl
/-- An operation that writes. -/
def eff1 (x : Option (AV × List AO)) (k : AV → List AO → Res) : Res := match x with | some r => k r.1 r.2 | none => none
theorem eff1_some (v : AV) (h' : List AO) (k : AV → List AO → Res) : eff1 (some (v, h')) k = k v h' := nrfl rfl
theorem step_eff {o : Oper} (hp : pureA P o e h = none) (hc : calleeA o e = none) : step1 P E lk o e h k = eff1 (effA P o e lk h) k := by
  unfold step1 stepA eff1
  simp only [hp, hc]
  cases effA P o e lk h <;> rfl
theorem s_alloc (t : TypeId) : step1 P E lk ⟨d, .alloc t, ty, pos, af, gd⟩ e h k = eff1 ((zeroL P t).map fun z => (.v (.sc (.ptr h.length 0)), h ++ [.rw t z])) k := step_eff rfl rfl
theorem s_box (t : TypeId) (x : Operand) : step1 P E lk ⟨d, .box t x, ty, pos, af, gd⟩ e h k = eff1 (match aeval e x with | .v c => some (.v (.sc (.ptr h.length 0)), h ++ [.rw t c.cells]) | _ => none) k := step_eff rfl rfl
theorem s_store (t : TypeId) (x y : Operand) : step1 P E lk ⟨d, .store t x y, ty, pos, af, gd⟩ e h k = eff1 ((storeA P h lk t (aeval e x) (aeval e y)).map fun h' => (.sk, h')) k := step_eff rfl rfl
theorem s_make (t : TypeId) (x y : Operand) : step1 P E lk ⟨d, .makeSlice t x y, ty, pos, af, gd⟩ e h k = eff1 (effA P ⟨d, .makeSlice t x y, ty, pos, af, gd⟩ e lk h) k := step_eff rfl rfl
theorem s_clear (x : Operand) (t : TypeId) : step1 P E lk ⟨d, .call { callee := .builtin .clear, args := #[x], argTypes := #[t] }, ty, pos, af, gd⟩ e h k = eff1 (clearA P h lk t (aeval e x)) k := by
  rw [step_eff rfl rfl]; simp [effA]
theorem s_upd (t : TypeId) (m i x : Operand) : step1 P E lk ⟨d, .mapUpdate t m i x, ty, pos, af, gd⟩ e h k = eff1 ((updA P h lk t (aeval e m) (aeval e i) (aeval e x)).map fun h' => (.sk, h')) k := step_eff rfl rfl
theorem s_mkmap (t : TypeId) : step1 P E lk ⟨d, .makeMap t none, ty, pos, af, gd⟩ e h k = k (.v (.sc (.mp h.length))) (h ++ [.map []]) := by
  rw [step_eff rfl rfl]; rfl
theorem s_del (x y : Operand) (t t' : TypeId) : step1 P E lk ⟨d, .call { callee := .builtin .delete, args := #[x, y], argTypes := #[t, t'] }, ty, pos, af, gd⟩ e h k = eff1 ((delA P h lk t (aeval e x) (aeval e y)).map fun h' => (.tup [], h')) k := by
  rw [step_eff rfl rfl]; rfl
theorem s_append (x y : Operand) (t : TypeId) : step1 P E lk ⟨d, .call { callee := .builtin .append, args := #[x, y], argTypes := #[t, t] }, ty, pos, af, gd⟩ e h k = eff1 (appendA P h lk t (aeval e x) (aeval e y)) k := by
  rw [step_eff rfl rfl]; simp [effA]
/-- A call. -/
def callA (E : Ext) (f : FuncId) (xs : Option (List CV)) (lk : Nat) (h : List AO) (k : AV → List AO → Res) : Res := match xs with | some xs => eff1 (E f xs lk h) k | none => none
theorem callA_some (f : FuncId) (xs : List CV) : callA E f (some xs) lk h k = eff1 (E f xs lk h) k := nrfl rfl
theorem s_call (f : FuncId) (args : Array Operand) (ts : Array TypeId) :
    step1 P E lk ⟨d, .call { callee := .value (.func f), args, argTypes := ts }, ty, pos, af, gd⟩ e h k = callA E f (toCL (args.toList.map (aeval e))) lk h k := by
  unfold step1 stepA callA eff1
  have h1 : pureA P ⟨d, .call { callee := .value (.func f), args, argTypes := ts }, ty, pos, af, gd⟩ e h = none := rfl
  cases hx : toCL (args.toList.map (aeval e)) with
  | none =>
    have h2 : calleeA ⟨d, .call { callee := .value (.func f), args, argTypes := ts }, ty, pos, af, gd⟩ e = none := by simp [calleeA, aeval, hx]
    have h3 : effA P ⟨d, .call { callee := .value (.func f), args, argTypes := ts }, ty, pos, af, gd⟩ e lk h = none := rfl
    simp only [h1, h2, h3]; rfl
  | some xs =>
    have h2 : calleeA ⟨d, .call { callee := .value (.func f), args, argTypes := ts }, ty, pos, af, gd⟩ e = some (f, xs) := by simp [calleeA, aeval, hx]
    simp only [h1, h2]
    cases E f xs lk h <;> rfl
/-- A call of what a slot holds. -/
def callV (E : Ext) (v : AV) (xs : Option (List CV)) (lk : Nat) (h : List AO) (k : AV → List AO → Res) : Res := match v, xs with | .v (.sc (.fn f a c)), some xs => eff1 (E f (a.map .sc ++ xs ++ c.map .sc) lk h) k | _, _ => none
theorem callV_some (f : FuncId) (a c : List SV) (xs : List CV) : callV E (.v (.sc (.fn f a c))) (some xs) lk h k = eff1 (E f (a.map .sc ++ xs ++ c.map .sc) lk h) k := nrfl rfl
theorem s_callv (x : Tmp) (args : Array Operand) (ts : Array TypeId) :
    step1 P E lk ⟨d, .call { callee := .value (.tmp x), args, argTypes := ts }, ty, pos, af, gd⟩ e h k = callV E (aeval e (.tmp x)) (toCL (args.toList.map (aeval e))) lk h k := by
  unfold step1 stepA callV eff1
  have h1 : pureA P ⟨d, .call { callee := .value (.tmp x), args, argTypes := ts }, ty, pos, af, gd⟩ e h = none := rfl
  have h3 : effA P ⟨d, .call { callee := .value (.tmp x), args, argTypes := ts }, ty, pos, af, gd⟩ e lk h = none := rfl
  simp only [h1, calleeA, h3]
  cases aeval e (.tmp x) with
  | und => rfl
  | sk => rfl
  | tup _ => rfl
  | v c =>
    cases c with
    | ag _ => rfl
    | sc s =>
      cases s <;> try rfl
      cases toCL (args.toList.map (aeval e)) with
      | none => rfl
      | some xs => simp only [Option.map_some]; generalize E _ _ lk h = z; cases z <;> rfl

theorem q_move (x : Operand) : quiet1 P E ⟨d, .move x, ty, pos, af, gd⟩ e h kq = kq (aeval e x) := nrfl rfl
theorem q_assign (x : Operand) : quiet1 P E ⟨d, .assign x, ty, pos, af, gd⟩ e h kq = kq (aeval e x) := nrfl rfl
theorem q_pick (c x y : Operand) : quiet1 P E ⟨d, .pick c x y, ty, pos, af, gd⟩ e h kq = pure1 (pickA (aeval e c) (aeval e x) (aeval e y)) kq := by
  rw [quiet_pure rfl]; simp only [pureA, pickA]; congr 1; generalize aeval e c = z; cases z with | und => rfl | sk => rfl | tup _ => rfl | v c => (cases c with | ag _ => rfl | sc s => (cases s <;> first | rfl | (rename_i q; cases q <;> rfl)))
theorem q_load (t : TypeId) (x : Operand) : quiet1 P E ⟨d, .load t x, ty, pos, af, gd⟩ e h kq = pure1 (loadA P h t (aeval e x)) kq := quiet_pure rfl
theorem q_lookup (t : TypeId) (x i : Operand) (ok : Bool) : quiet1 P E ⟨d, .lookup t x i ok, ty, pos, af, gd⟩ e h kq = pure1 (lookupA P h t (aeval e x) (aeval e i) ok) kq := quiet_pure rfl
theorem q_nil (x : Operand) : quiet1 P E ⟨d, .nilCheck x, ty, pos, af, gd⟩ e h kq = pure1 (nilA (aeval e x)) kq := quiet_pure rfl
theorem q_bin (op : BinOp) (t t' : TypeId) (x y : Operand) : quiet1 P E ⟨d, .binOp op t x y t', ty, pos, af, gd⟩ e h kq = pure1 (binOpA P op t (aeval e x) (aeval e y)) kq := quiet_pure rfl
theorem q_un (op : UnOp) (t : TypeId) (x : Operand) : quiet1 P E ⟨d, .unOp op t x, ty, pos, af, gd⟩ e h kq = pure1 (unOpA op (aeval e x)) kq := quiet_pure rfl
theorem q_conv (s t : TypeId) (x : Operand) : quiet1 P E ⟨d, .convert s t x, ty, pos, af, gd⟩ e h kq = pure1 (convertA P s t (aeval e x)) kq := quiet_pure rfl
theorem q_faddr (t : TypeId) (x : Operand) (f : Nat) : quiet1 P E ⟨d, .fieldAddr t x f, ty, pos, af, gd⟩ e h kq = pure1 (fieldAddrA P t (aeval e x) f) kq := quiet_pure rfl
theorem q_field (t : TypeId) (x : Operand) (f : Nat) : quiet1 P E ⟨d, .field t x f, ty, pos, af, gd⟩ e h kq = pure1 (fieldA P t (aeval e x) f) kq := quiet_pure rfl
theorem q_iaddr (t : TypeId) (x i : Operand) : quiet1 P E ⟨d, .indexAddr t x i, ty, pos, af, gd⟩ e h kq = pure1 (indexAddrA P t (aeval e x) (aeval e i)) kq := quiet_pure rfl
theorem q_index (t : TypeId) (x i : Operand) : quiet1 P E ⟨d, .index t x i, ty, pos, af, gd⟩ e h kq = pure1 (indexA P t (aeval e x) (aeval e i)) kq := quiet_pure rfl
theorem q_extract (x : Operand) (i : Nat) : quiet1 P E ⟨d, .extract x i, ty, pos, af, gd⟩ e h kq = pure1 (extractA (aeval e x) i) kq := quiet_pure rfl
theorem q_slice (t : TypeId) (x : Operand) (lo hi mx : Option Operand) : quiet1 P E ⟨d, .slice t x lo hi mx, ty, pos, af, gd⟩ e h kq = pure1 (sliceA P t (aeval e x) (lo.map (aeval e)) (hi.map (aeval e)) (mx.map (aeval e))) kq := quiet_pure rfl
theorem q_build (t : TypeId) (ps : Array (Nat × Operand)) : quiet1 P E ⟨d, .build t ps, ty, pos, af, gd⟩ e h kq = pure1 (buildA P t (ps.toList.map fun p => (p.1, aeval e p.2))) kq := quiet_pure rfl
theorem q_len (x : Operand) (t : TypeId) : quiet1 P E ⟨d, .call { callee := .builtin .len, args := #[x], argTypes := #[t] }, ty, pos, af, gd⟩ e h kq = pure1 (lenA P h t (aeval e x)) kq := quiet_pure rfl
theorem q_min (x y : Operand) (ts : Array TypeId) : quiet1 P E ⟨d, .call { callee := .builtin .min, args := #[x, y], argTypes := ts }, ty, pos, af, gd⟩ e h kq = pure1 (min2A (aeval e x) (aeval e y)) kq := quiet_pure rfl
theorem q_max (x y : Operand) (ts : Array TypeId) : quiet1 P E ⟨d, .call { callee := .builtin .max, args := #[x, y], argTypes := ts }, ty, pos, af, gd⟩ e h kq = pure1 (max2A (aeval e x) (aeval e y)) kq := quiet_pure rfl
def callQ (E : Ext) (f : FuncId) (xs : Option (List CV)) (h : List AO) (k : AV → Res) : Res := match xs with | some xs => (match E f xs h.length h with | some (r, h') => if h'.length = h.length ∧ (freeA r).isSome then k r else none | none => none) | none => none
def effQ (x : Option (AV × List AO)) (h : List AO) (k : AV → Res) : Res := match x with | some (r, h') => if h'.length = h.length ∧ (freeA r).isSome then k r else none | none => none
theorem callQ_some (f : FuncId) (xs : List CV) : callQ E f (some xs) h kq = effQ (E f xs h.length h) h kq := nrfl rfl
theorem effQ_some (r : AV) (hf : (freeA r).isSome = true) : effQ (some (r, h)) h kq = kq r := by
  simp [effQ, hf]
theorem q_call (f : FuncId) (args : Array Operand) (ts : Array TypeId) :
    quiet1 P E ⟨d, .call { callee := .value (.func f), args, argTypes := ts }, ty, pos, af, gd⟩ e h kq = callQ E f (toCL (args.toList.map (aeval e))) h kq := by
  unfold quiet1 quietA callQ
  have h1 : pureA P ⟨d, .call { callee := .value (.func f), args, argTypes := ts }, ty, pos, af, gd⟩ e h = none := rfl
  cases hx : toCL (args.toList.map (aeval e)) with
  | none =>
    have h2 : calleeA ⟨d, .call { callee := .value (.func f), args, argTypes := ts }, ty, pos, af, gd⟩ e = none := by simp [calleeA, aeval, hx]
    simp only [h1, h2]; rfl
  | some xs =>
    have h2 : calleeA ⟨d, .call { callee := .value (.func f), args, argTypes := ts }, ty, pos, af, gd⟩ e = some (f, xs) := by simp [calleeA, aeval, hx]
    simp only [h1, h2]
    cases E f xs h.length h with
    | none => rfl
    | some r =>
      obtain ⟨r, h'⟩ := r
      simp only
      split <;> rfl
end

/-! Regions whose order is open, by their text -/
def blockOf (x : AV) (l : List Nat) : List Nat := match x with | .v (.sc (.ptr b _)) => (2 * b) :: l | .v (.sc (.sl b _ _ _)) => (2 * b) :: l | _ => l
def keepB (x : AV) (l : List Nat) : List Nat := match x with | .v (.sc (.ptr b _)) => (2 * b + 1) :: l | .v (.sc (.sl b _ _ _)) => (2 * b + 1) :: l | _ => l
theorem keep_sl (b o n s : Nat) (l : List Nat) : keepB (.v (.sc (.sl b o n s))) l = (2 * b + 1) :: l := nrfl rfl
theorem keep_nils (l : List Nat) : keepB (.v (.sc .nils)) l = l := nrfl rfl
theorem keep_ptr (b i : Nat) (l : List Nat) : keepB (.v (.sc (.ptr b i))) l = (2 * b + 1) :: l := nrfl rfl
theorem block_sl (b o n s : Nat) (l : List Nat) : blockOf (.v (.sc (.sl b o n s))) l = (2 * b) :: l := nrfl rfl
theorem block_nils (l : List Nat) : blockOf (.v (.sc .nils)) l = l := nrfl rfl
theorem block_ptr (b i : Nat) (l : List Nat) : blockOf (.v (.sc (.ptr b i))) l = (2 * b) :: l := nrfl rfl
section
variable {base : Nat} {ws : List Nat} {cs : List GOp}
theorem resv_nil : resv 0 h = h := nrfl rfl
theorem resv_cons (n : Nat) : resv (n + 1) h = resv n (h ++ [.dead]) := nrfl rfl
theorem mask_nil (k : Nat) : maskL base k [] h = h := nrfl rfl
theorem mask_keep (k : Nat) (ks : List Bool) : maskL base k (true :: ks) h = maskL base (k + 1) ks h := nrfl rfl
theorem mask_drop (k : Nat) (ks : List Bool) : maskL base k (false :: ks) h = (maskL base (k + 1) ks h).set (base + k) .dead := nrfl rfl
noncomputable def gact1 (P : Program) (E : Ext) (lk base : Nat) (ws : List Nat) (c : GOp) (o : Oper) (e : List AV) (h : List AO) (k : AV → List AO → Res) : Res := (gactA P E lk base ws c o e h).bind fun r => k r.1 r.2
noncomputable def opsGC (P : Program) (E : Ext) (lk base : Nat) (ws : List Nat) (ops : Array Oper) (cs : List GOp) (l : List Oper) (K : List AV → List AO → Res) : List AV → List AO → Res := fun e h => opsG P E lk base ws ops cs l e h K
noncomputable def opsGK (P : Program) (E : Ext) (lk base : Nat) (ws : List Nat) (ops : Array Oper) (d : Option Tmp) (cs : List GOp) (rest : List Oper) (e : List AV) (K : List AV → List AO → Res) : AV → List AO → Res := fun v h => opsG P E lk base ws ops cs rest (setD e d v) h K
noncomputable def opsGT (P : Program) (E : Ext) (lk base : Nat) (ws : List Nat) (ops : Array Oper) (cs : List GOp) (rest : List Oper) (e : List AV) (h : List AO) (K : List AV → List AO → Res) : Unit → Res := fun _ => opsG P E lk base ws ops cs rest e h K
noncomputable def gactT (P : Program) (E : Ext) (lk base : Nat) (ws : List Nat) (c : GOp) (o : Oper) (e : List AV) (h : List AO) (k : AV → List AO → Res) : Unit → Res := fun _ => gact1 P E lk base ws c o e h k
section
variable {d1 : Dum ops} {d2 : Dum rest} {d3 : Dum K}
theorem opsGC_app : opsGC P E lk base ws (Hd ops d1) cs (Hd rest d2) (Hd K d3) e h = opsG P E lk base ws ops cs rest e h K := nrfl rfl
theorem opsGK_app (v : AV) : opsGK P E lk base ws (Hd ops d1) d cs (Hd rest d2) e (Hd K d3) v h = goA (setD e d v) h (opsGC P E lk base ws (Hd ops d1) cs (Hd rest d2) (Hd K d3)) := nrfl rfl
theorem opsGT_app : opsGT P E lk base ws (Hd ops d1) cs (Hd rest d2) e h (Hd K d3) () = goA e h (opsGC P E lk base ws (Hd ops d1) cs (Hd rest d2) (Hd K d3)) := nrfl rfl
theorem gactT_app (c : GOp) (o : Oper) (d4 : Dum o) (k : AV → List AO → Res) : gactT P E lk base ws c (Hd o d4) e h k () = gact1 P E lk base ws c o e h k := nrfl rfl
end
theorem opsG_cons (c : GOp) (o : Oper) : opsG P E lk base ws ops (c :: cs) (o :: rest) e h K = guarded ops e o.guard (gactT P E lk base ws c (Hd o ⟨⟩) e h (opsGK P E lk base ws (Hd ops ⟨⟩) o.dst cs (Hd rest ⟨⟩) e (Hd K ⟨⟩))) (opsGT P E lk base ws (Hd ops ⟨⟩) cs (Hd rest ⟨⟩) (setD e o.dst .sk) h (Hd K ⟨⟩)) := by
  simp only [opsG, wantedA, guarded, gact1, condB, gactT, opsGK, opsGT, Hd]
  cases o.guard with
  | none => rfl
  | some p =>
    obtain ⟨j, want⟩ := p
    simp only
    cases (ops[j]?).bind (·.dst) with
    | none => rfl
    | some d =>
      simp only
      cases e[d]? with
      | none => rfl
      | some x =>
        cases x with
        | und => rfl
        | sk => rfl
        | tup _ => rfl
        | v c =>
          cases c with
          | ag _ => rfl
          | sc s =>
            cases s <;> first | rfl | (rename_i q; cases q <;> cases want <;> rfl)
theorem opsG_nil : opsG P E lk base ws ops cs [] e h K = K e h := by cases cs <;> rfl
section
variable {k : AV → List AO → Res}
theorem g_m (o : Oper) : gact1 P E lk base ws .m o e h k = quiet1 P noE o e h (withH k h) := by
  simp only [gact1, gactA, quiet1, withH]; cases quietA P noE o e h <;> rfl
theorem g_r (o : Oper) (keep : List Bool) : gact1 P E lk base ws (.r keep) o e h k = quiet1 P E o e (maskL base 0 keep h) (withH k h) := by
  simp only [gact1, gactA, quiet1, withH]; cases quietA P E o e (maskL base 0 keep h) <;> rfl
theorem g_w (o : Oper) : gact1 P E lk base ws .w o e h k = step1 P E lk o e h k := nrfl rfl
/-- A load of an old block. -/
noncomputable def rdL (P : Program) (ws : List Nat) (base : Nat) (t : TypeId) (x : AV) (h : List AO) (k : AV → Res) : Res := match x with | .v (.sc (.ptr l i)) => open Classical in if l < base ∧ NotIn l ws then pure1 (loadA P h t (.v (.sc (.ptr l i)))) k else none | _ => none
theorem rd_ptr (t : TypeId) (l i : Nat) (kq : AV → Res) (h1 : l < base) (h2 : NotIn l ws) : rdL P ws base t (.v (.sc (.ptr l i))) h kq = pure1 (loadA P h t (.v (.sc (.ptr l i)))) kq := by
  simp only [rdL]; rw [if_pos ⟨h1, h2⟩]
theorem notin_nil (l : Nat) : NotIn l [] ↔ True := ⟨fun _ => trivial, fun _ => ⟨fun k hk => (by cases hk), fun ⟨k, hk⟩ => (by cases hk)⟩⟩
theorem notin_cons (l k : Nat) (ks : List Nat) : NotIn l (2 * k :: ks) ↔ l ≠ k ∧ NotIn l ks := by
  have e1 : ∀ a b : Nat, (2 * a = 2 * b) = (a = b) := fun a b => propext (by omega)
  have e2 : ∀ a b : Nat, (2 * a + 1 = 2 * b) = False := fun a b => propext ⟨fun h => by omega, fun h => h.elim⟩
  constructor
  · rintro ⟨h1, h2⟩
    refine ⟨h1 k (by simp), fun j hj => h1 j (List.mem_cons_of_mem _ hj), fun ⟨j, hj⟩ => ?_⟩
    rcases List.mem_cons.1 (h2 ⟨j, List.mem_cons_of_mem _ hj⟩) with h | h
    · omega
    · exact h
  · rintro ⟨h0, h1, h2⟩
    refine ⟨fun j hj => ?_, fun ⟨j, hj⟩ => ?_⟩
    · rcases List.mem_cons.1 hj with h | h
      · have : j = k := by omega
        rw [this]; exact h0
      · exact h1 j h
    · rcases List.mem_cons.1 hj with h | h
      · omega
      · exact List.mem_cons_of_mem _ (h2 ⟨j, h⟩)
theorem notin_keep1 (l k : Nat) : NotIn l [2 * k + 1] ↔ l = k := by
  constructor
  · rintro ⟨_, h2⟩
    have := h2 ⟨k, by simp⟩
    simp only [List.mem_singleton] at this
    omega
  · rintro rfl
    refine ⟨fun j hj => ?_, fun _ => by simp⟩
    simp only [List.mem_singleton] at hj
    omega
theorem notin_keep2 (l k1 k2 : Nat) : NotIn l [2 * k1 + 1, 2 * k2 + 1] ↔ l = k1 ∨ l = k2 := by
  constructor
  · rintro ⟨_, h2⟩
    have := h2 ⟨k1, by simp⟩
    simp only [List.mem_cons, List.not_mem_nil, or_false] at this
    omega
  · intro h
    refine ⟨fun j hj => ?_, fun _ => ?_⟩
    · simp only [List.mem_cons, List.not_mem_nil, or_false] at hj
      omega
    · simp only [List.mem_cons, List.not_mem_nil, or_false]
      omega
theorem not_notin (k : Nat) (ks : List Nat) : ¬ NotIn k (2 * k :: ks) := fun h => h.1 k (by simp) rfl
theorem not_notin2 (k2 k : Nat) (ks : List Nat) : ¬ NotIn k (2 * k2 :: 2 * k :: ks) := fun h => h.1 k (by simp) rfl
theorem g_lload (t : TypeId) (x : Operand) : gact1 P E lk base ws .l ⟨d, .load t x, ty, pos, af, gd⟩ e h k = rdL P ws base t (aeval e x) h (withH k h) := by
  simp only [gact1, gactA, readA, rdL]
  generalize aeval e x = z
  cases z with
  | und => rfl
  | sk => rfl
  | tup _ => rfl
  | v c =>
    cases c with
    | ag _ => rfl
    | sc s =>
      cases s <;> try rfl
      rename_i l i
      simp only
      split
      · simp only [pure1, withH]; cases loadA P h t (.v (.sc (.ptr l i))) <;> rfl
      · rfl
theorem g_llen (x : Operand) (t : TypeId) : gact1 P E lk base ws .l ⟨d, .call { callee := .builtin .len, args := #[x], argTypes := #[t] }, ty, pos, af, gd⟩ e h k = pure1 (lenA P [] t (aeval e x)) (withH k h) := by
  simp only [gact1, gactA, readA]
  show ((lenA P [] t (aeval e x)).map _).bind _ = _
  simp only [pure1, withH]
  cases lenA P [] t (aeval e x) <;> rfl
/-- What leaves old blocks alone. -/
noncomputable def lowIf (ws : List Nat) (base : Nat) (h h' : List AO) (r : Res) : Res := open Classical in if LowEq ws base h h' then r else none
noncomputable def lowK (ws : List Nat) (base : Nat) (h : List AO) (k : AV → List AO → Res) : AV → List AO → Res := fun v h' => lowIf ws base h h' (k v h')
theorem lowK_app (v : AV) (h' : List AO) : lowK ws base h k v h' = lowIf ws base h h' (k v h') := nrfl rfl
theorem lowIf_ok (h' : List AO) (r : Res) (hl : LowEq ws base h h') : lowIf ws base h h' r = r := by simp only [lowIf]; rw [if_pos hl]
theorem g_x (o : Oper) : gact1 P E lk base ws .x o e h k = step1 P E lk o e h (lowK ws base h k) := by
  simp only [gact1, gactA, step1]
  cases stepA P E lk o e h with
  | none => rfl
  | some r => simp only [Option.bind_some, lowK, lowIf]; split <;> rfl
theorem low_same : LowEq ws base h h ↔ True := ⟨fun _ => trivial, fun _ _ _ _ => rfl⟩
theorem low_push (h' : List AO) (x : AO) (hb : base ≤ h'.length) : LowEq ws base h (h' ++ [x]) ↔ LowEq ws base h h' := by
  constructor
  · intro H l hl hn; rw [← H l hl hn, List.getElem?_append_left (by omega)]
  · intro H l hl hn; rw [List.getElem?_append_left (by omega)]; exact H l hl hn
theorem low_set (h' : List AO) (l : Nat) (x : AO) (hl : ¬ NotIn l ws) : LowEq ws base h (h'.set l x) ↔ LowEq ws base h h' := by
  constructor
  · intro H i hi hn
    have := H i hi hn
    rwa [List.getElem?_set_ne (fun q : l = i => hl (by rw [q]; exact hn))] at this
  · intro H i hi hn
    rw [List.getElem?_set_ne (fun q : l = i => hl (by rw [q]; exact hn))]; exact H i hi hn
theorem low_last (l : Nat) (x y : AO) (hl : ¬ NotIn h.length ws) : LowEq ws base (h ++ [x]) (h ++ [y]) ↔ True := by
  refine ⟨fun _ => trivial, fun _ i hi hn => ?_⟩
  have : i ≠ h.length := fun q : i = h.length => hl (by rw [← q]; exact hn)
  rcases Nat.lt_or_ge i h.length with h1 | h1
  · rw [List.getElem?_append_left h1, List.getElem?_append_left h1]
  · rw [List.getElem?_eq_none (by simp; omega), List.getElem?_eq_none (by simp; omega)]
theorem low_both (h1 h2 : List AO) (x : AO) (hl : h1.length = h2.length) : LowEq ws base (h1 ++ [x]) (h2 ++ [x]) ↔ LowEq ws base h1 h2 := by
  constructor
  · intro H i hi hn
    rcases Nat.lt_or_ge i h1.length with k1 | k1
    · have := H i hi hn
      rwa [List.getElem?_append_left (by omega), List.getElem?_append_left (by omega)] at this
    · rw [List.getElem?_eq_none (by omega), List.getElem?_eq_none (by omega)]
  · intro H i hi hn
    rcases Nat.lt_or_ge i h1.length with k1 | k1
    · rw [List.getElem?_append_left (by omega), List.getElem?_append_left (by omega)]; exact H i hi hn
    · rw [List.getElem?_append_right (by omega), List.getElem?_append_right (by omega), hl]
theorem low_pushL (h' : List AO) (x : AO) (hb : base ≤ h.length) : LowEq ws base (h ++ [x]) h' ↔ LowEq ws base h h' := by
  constructor
  · intro H l hl hn; rw [H l hl hn, List.getElem?_append_left (by omega)]
  · intro H l hl hn; rw [H l hl hn, List.getElem?_append_left (by omega)]
theorem low_last_1 (k : Nat) (ks : List Nat) (x y : AO) (hl : h.length = k) : LowEq (2 * k :: ks) base (h ++ [x]) (h ++ [y]) ↔ True := low_last (l := 0) x y (by rw [hl]; exact not_notin k ks)
theorem low_last_2 (k2 k : Nat) (ks : List Nat) (x y : AO) (hl : h.length = k) : LowEq (2 * k2 :: 2 * k :: ks) base (h ++ [x]) (h ++ [y]) ↔ True := low_last (l := 0) x y (by rw [hl]; exact not_notin2 k2 k ks)
theorem low_set_1 (k : Nat) (ks : List Nat) (h' : List AO) (l : Nat) (x : AO) (hl : l = k) : LowEq (2 * k :: ks) base h (h'.set l x) ↔ LowEq (2 * k :: ks) base h h' := low_set h' l x (by rw [hl]; exact not_notin k ks)
theorem low_set_2 (k2 k : Nat) (ks : List Nat) (h' : List AO) (l : Nat) (x : AO) (hl : l = k) : LowEq (2 * k2 :: 2 * k :: ks) base h (h'.set l x) ↔ LowEq (2 * k2 :: 2 * k :: ks) base h h' := low_set h' l x (by rw [hl]; exact not_notin2 k2 k ks)
theorem blocks_nil : blocksOf e [] = [] := nrfl rfl
theorem blocks_cons (t : Nat) (ts : List Nat) (ht : t ≠ 1000000) : blocksOf e (t :: ts) = blockOf (e.getD t .und) (blocksOf e ts) := by
  simp only [blocksOf, blockOf]; rw [if_neg ht]; rfl
theorem blocks_mark (ts : List Nat) : blocksOf e (1000000 :: ts) = keepOf e ts := by
  simp only [blocksOf]; rw [if_pos trivial]
theorem keep_nil : keepOf e [] = [] := nrfl rfl
theorem keep_cons (t : Nat) (ts : List Nat) : keepOf e (t :: ts) = keepB (e.getD t .und) (keepOf e ts) := by
  simp only [keepOf, keepB]; rfl
def galloc (x : Option ((Nat → AV) × AO)) (l : Nat) (h : List AO) (k : AV → List AO → Res) : Res := x.bind fun p => if isDead h[l]? = true then k (p.1 l) (h.set l p.2) else none
theorem g_a (o : Oper) (pos : Nat) : gact1 P E lk base ws (.a pos) o e h k = galloc (allocA P o e) (base + pos) h k := by
  simp only [gact1, gactA, galloc]
  cases allocA P o e with
  | none => rfl
  | some p => simp only [Option.bind_some]; split <;> rfl
theorem g_b (o : Oper) (pos : Nat) (keep : List Bool) : gact1 P E lk base ws (.b pos keep) o e h k = galloc (copyA P o e (maskL base 0 keep h)) (base + pos) h k := by
  simp only [gact1, gactA, galloc]
  cases copyA P o e (maskL base 0 keep h) with
  | none => rfl
  | some p => simp only [Option.bind_some]; split <;> rfl
def copyX (P : Program) (h : List AO) (t : TypeId) (x y : AV) : Option ((Nat → AV) × AO) := match x with | .v (.sc .nils) => copyS P h t y | _ => none
theorem gb_app (x y : Operand) (t : TypeId) : copyA P ⟨d, .call { callee := .builtin .append, args := #[x, y], argTypes := #[t, t] }, ty, pos, af, gd⟩ e h = copyX P h t (aeval e x) (aeval e y) := by
  simp only [copyA, if_true]; rfl
theorem copyX_nils (t : TypeId) (y : AV) : copyX P h t (.v (.sc .nils)) y = copyS P h t y := nrfl rfl
def copyB (e s b : Nat) (new : Option (List SV)) : Option ((Nat → AV) × AO) :=
  match new with
  | some new => if new.length % s = 0 ∧ new.length / s * b ≤ 140737488355328 then (if new = [] then some (fun _ => .v (.sc .nils), .dead) else some (fun l => .v (.sc (.sl l 0 (new.length / s) s)), .rw e new)) else none
  | none => none
theorem copy_at {t e : TypeId} {s b : Nat} {z : List SV} (hu : P.underlying t = some (.slice e)) (hs : szT P e = some s) (hb : bytesT P e = some b) (hz : zeroL P e = some z) (hs0 : s ≠ 0) (hb0 : b ≠ 0) (hzl : z.length = s) (y : AV) :
    copyS P h t y = copyB e s b (sliceCells P h e y) := by
  simp only [copyS, hu, hs, hb, hz, copyB]
  cases sliceCells P h e y with
  | none => rfl
  | some new =>
    simp only [Option.bind_some]
    by_cases hc : new.length % s = 0 ∧ new.length / s * b ≤ 140737488355328
    · rw [if_pos hc, if_neg]
      rintro (h | h | h | h | h)
      · exact hs0 h
      · exact hb0 h
      · exact h hc.1
      · exact h hzl
      · exact h hc.2
    · rw [if_neg hc, if_pos]
      by_cases h1 : new.length % s = 0
      · exact .inr (.inr (.inr (.inr fun h3 => hc ⟨h1, h3⟩)))
      · exact .inr (.inr (.inl h1))
theorem copyB_some (e s b : Nat) (new : List SV) (hn : 0 < new.length) (hm : new.length % s = 0) (hb : new.length / s * b ≤ 140737488355328) : copyB e s b (some new) = some (fun l => .v (.sc (.sl l 0 (new.length / s) s)), .rw e new) := by
  simp only [copyB]; rw [if_pos ⟨hm, hb⟩, if_neg (fun q => by rw [q] at hn; simp at hn)]
theorem copyB_nil (e s b : Nat) : copyB e s b (some []) = some (fun _ => .v (.sc .nils), .dead) := by simp [copyB]
def gallocO (f : Nat → AV) (ao : AO) (l : Nat) (h : List AO) (x : Option AO) (k : AV → List AO → Res) : Res := if isDead x = true then k (f l) (h.set l ao) else none
theorem galloc_some (f : Nat → AV) (ao : AO) (l : Nat) : galloc (some (f, ao)) l h k = gallocO f ao l h h[l]? k := nrfl rfl
theorem gallocO_dead (f : Nat → AV) (ao : AO) (l : Nat) : gallocO f ao l h (some .dead) k = k (f l) (h.set l ao) := by simp only [gallocO, isDead, if_true]
theorem ga_alloc (t : TypeId) : allocA P ⟨d, .alloc t, ty, pos, af, gd⟩ e = (zeroL P t).map fun z => (fun l => .v (.sc (.ptr l 0)), .rw t z) := nrfl rfl
theorem ga_box (t : TypeId) (x : Operand) : allocA P ⟨d, .box t x, ty, pos, af, gd⟩ e = match aeval e x with | .v c => some (fun l => .v (.sc (.ptr l 0)), .rw t c.cells) | _ => none := nrfl rfl
/-- A slice that is told. -/
def litA (P : Program) (t : TypeId) (n : Nat) (ps : List (Nat × AV)) : Option (List SV × TypeId × Nat) :=
  match P.underlying t with
  | some (.slice el) =>
    match szT P el, zeroL P el with
    | some s, some z => if n * s ≤ 16777216 ∧ z.length = s ∧ s ≠ 0 then (fillA (fun i => some (i * s, s)) (List.replicate n z).flatten ps).map fun cs => (cs, el, s) else none
    | _, _ => none
  | _ => none
theorem ga_lit (t : TypeId) (n : Nat) (ps : Array (Nat × Operand)) : allocA P ⟨d, .buildSlice t n ps, ty, pos, af, gd⟩ e = (litA P t n (ps.toList.map fun p => (p.1, aeval e p.2))).map fun p => (fun l => .v (.sc (.sl l 0 n p.2.2)), .rw p.2.1 p.1) := by
  simp only [allocA, litA]
  cases P.underlying t with
  | none => rfl
  | some u =>
    cases u <;> try rfl
    rename_i el
    simp only
    cases szT P el with
    | none => rfl
    | some s =>
      cases zeroL P el with
      | none => rfl
      | some z =>
        simp only
        split
        · cases fillA (fun i => some (i * s, s)) (List.replicate n z).flatten (ps.toList.map fun p => (p.1, aeval e p.2)) <;> rfl
        · rfl
theorem s_lit' (t : TypeId) (n : Nat) (ps : Array (Nat × Operand)) : step1 P E lk ⟨d, .buildSlice t n ps, ty, pos, af, gd⟩ e h k = eff1 ((litA P t n (ps.toList.map fun p => (p.1, aeval e p.2))).map fun p => (.v (.sc (.sl h.length 0 n p.2.2)), h ++ [.rw p.2.1 p.1])) k := by
  rw [step_eff rfl rfl]
  congr 1
  simp only [effA, litA]
  cases P.underlying t with
  | none => rfl
  | some u =>
    cases u <;> try rfl
    rename_i el
    simp only
    cases szT P el with
    | none => rfl
    | some s =>
      cases zeroL P el with
      | none => rfl
      | some z =>
        simp only
        split
        · cases fillA (fun i => some (i * s, s)) (List.replicate n z).flatten (ps.toList.map fun p => (p.1, aeval e p.2)) <;> rfl
        · rfl
theorem lit_fill {t el : TypeId} {n s : Nat} {z : List SV} {ps : List (Nat × AV)} (hu : P.underlying t = some (.slice el)) (hs : szT P el = some s) (hz : zeroL P el = some z) (hn : n * s ≤ 16777216) (hzl : z.length = s) (hs0 : s ≠ 0) :
    litA P t n ps = (fillA (fun i => some (i * s, s)) (List.replicate n z).flatten ps).map fun cs => (cs, el, s) := by
  simp only [litA, hu, hs, hz]; rw [if_pos ⟨hn, hzl, hs0⟩]
end
end
theorem cells_ag (cs : List SV) : CV.cells (.ag cs) = cs := nrfl rfl
theorem cells_sc (x : SV) : CV.cells (.sc x) = [x] := nrfl rfl
/-! No addresses -/
theorem fr_sc (x : SV) : (freeA (.v (.sc x))).isSome = (freeS x).isSome := nrfl rfl
theorem fr_ag (cs : List SV) : (freeA (.v (.ag cs))).isSome = (freeL cs).isSome := by simp [freeA, freeC]
theorem fr_tup (cs : List CV) : (freeA (.tup cs)).isSome = (freeCL cs).isSome := by simp [freeA]
theorem fr_nil : (freeL []).isSome = true := nrfl rfl
theorem fr_cons (x : SV) (xs : List SV) : (freeL (x :: xs)).isSome = ((freeS x).isSome && (freeL xs).isSome) := by
  simp only [freeL]; cases freeS x <;> simp
theorem fr_cnil : (freeCL []).isSome = true := nrfl rfl
theorem fr_ccons (x : CV) (xs : List CV) : (freeCL (x :: xs)).isSome = ((freeC x).isSome && (freeCL xs).isSome) := by
  simp only [freeCL]; cases freeC x <;> simp
theorem fr_csc (x : SV) : (freeC (.sc x)).isSome = (freeS x).isSome := nrfl rfl
theorem fr_cag (cs : List SV) : (freeC (.ag cs)).isSome = (freeL cs).isSome := by simp [freeC]
theorem fr_int (k : IntKind) (n : Int) : (freeS (.int k n)).isSome = true := nrfl rfl
theorem fr_bool (b : Bool) : (freeS (.bool b)).isSome = true := nrfl rfl
theorem fr_str (s : ByteArray) : (freeS (.str s)).isSome = true := nrfl rfl
theorem fr_nils : (freeS .nils).isSome = true := nrfl rfl
theorem fr_nili : (freeS .nili).isSome = true := nrfl rfl
/-! Structs, arrays and slices that are told -/
def fillP (q : Option (Nat × Nat)) (c : CV) (cs : List SV) (k : List SV → Option (List SV)) : Option (List SV) := match q with | some (o, n) => if c.cells.length = n ∧ o + n ≤ cs.length then k (splice cs o c.cells) else none | none => none
theorem fillP_some (o n : Nat) (c : CV) (cs : List SV) (k : List SV → Option (List SV)) (h1 : c.cells.length = n) (h2 : o + n ≤ cs.length) : fillP (some (o, n)) c cs k = k (splice cs o c.cells) := by
  simp only [fillP, h1, h2, and_self, if_true]
theorem fill_nil (place : Nat → Option (Nat × Nat)) (cs : List SV) : fillA place cs [] = some cs := nrfl rfl
theorem fill_cons (place : Nat → Option (Nat × Nat)) (cs : List SV) (i : Nat) (c : CV) (rest : List (Nat × AV)) : fillA place cs ((i, .v c) :: rest) = fillP (place i) c cs (fun cs => fillA place cs rest) := by
  simp only [fillA, fillP]
  cases place i with
  | none => rfl
  | some p => obtain ⟨o, n⟩ := p; rfl

/-! Code -/
section
variable {V : Env} {kn : List AV → List AO → Res} {kx : Nat → List AV → List AO → Res} {kr : List AV → List AO → Res}
noncomputable def codeK (V : Env) (b : Code) (kn : List AV → List AO → Res) (kx : Nat → List AV → List AO → Res) (kr : List AV → List AO → Res) : List AV → List AO → Res := fun e h => codeA V b e h kn kx kr
noncomputable def codeT (V : Env) (b : Code) (e : List AV) (h : List AO) (kn : List AV → List AO → Res) (kx : Nat → List AV → List AO → Res) (kr : List AV → List AO → Res) : Unit → Res := fun _ => codeA V b e h kn kx kr
def blockK (id : Nat) (kn : List AV → List AO → Res) (kx : Nat → List AV → List AO → Res) : Nat → List AV → List AO → Res := fun i e h => if i = id then kn e h else kx i e h
def retK (P : Program) (rs : List ResultVar) : List AV → List AO → Res := fun e h => retA P rs e h
def noX : Nat → List AV → List AO → Res := fun _ _ _ => none
def quietEnd (kn : List AV → List AO → Res) (h : List AO) : List AV → Res := fun e => kn e h
def tailK (V : Env) (os : Array Oper) (n : Nat) (h : List AO) (kn : List AV → List AO → Res) : List AV → Res := fun e => opsA V.P V.E V.lock os (os.toList.drop n) e h kn
def againK (again : List AV × List AO → Res) : List AV → List AO → Res := fun e h => again (e, h)
noncomputable def loopF (V : Env) (b : Code) (kx : Nat → List AV → List AO → Res) (kr : List AV → List AO → Res) : (List AV × List AO → Res) → List AV × List AO → Res := fun again s => codeA V b s.1 s.2 (againK again) kx kr
theorem codeK_app (b : Code) (dm : Dum b) : codeK V (Hd b dm) kn kx kr e h = codeA V b e h kn kx kr := nrfl rfl
theorem codeT_app (b : Code) (dm : Dum b) : codeT V (Hd b dm) e h kn kx kr () = codeA V b e h kn kx kr := nrfl rfl
theorem blockK_app (id i : Nat) : blockK id kn kx i e h = if i = id then kn e h else kx i e h := nrfl rfl
theorem retK_app (rs : List ResultVar) : retK P rs e h = retA P rs e h := nrfl rfl
theorem quietEnd_app : quietEnd kn h e = kn e h := nrfl rfl
theorem tailK_app (l : List Oper) (dm : Dum l.toArray) (n : Nat) : tailK V (Hd l.toArray dm) n h kn e = goA e h (opsC V.P V.E V.lock (Hd l.toArray ⟨⟩) (Hd (l.drop n) ⟨⟩) (Hd kn ⟨⟩)) := nrfl rfl
theorem againK_app (again : List AV × List AO → Res) : againK again e h = again (e, h) := nrfl rfl
theorem loopF_app (b : Code) (dm : Dum b) (again : List AV × List AO → Res) : loopF V (Hd b dm) kx kr again (e, h) = codeA V b e h (againK again) kx kr := nrfl rfl
theorem runA_eq (fn : Func) (c : Code) (args : List CV) : runA V fn c args h = codeA V c (args.map .v ++ List.replicate (fn.ntmps - args.length) .und) h (retK V.P fn.results.toList) noX (retK V.P fn.results.toList) := nrfl rfl
theorem c_skip : codeA V .skip e h kn kx kr = kn e h := nrfl rfl
theorem c_seq (a b : Code) : codeA V (.seq a b) e h kn kx kr = codeA V a e h (codeK V (Hd b ⟨⟩) kn kx kr) kx kr := nrfl rfl
theorem c_region (id : Nat) (l : List Oper) : codeA V (.region id l.toArray false) e h kn kx kr = goA (forget e (V.er id)) h (opsC V.P V.E V.lock (Hd l.toArray ⟨⟩) (Hd l ⟨⟩) (Hd kn ⟨⟩)) := nrfl rfl
/-- A region whose order is open. -/
noncomputable def drawA (V : Env) (d : Option Way) (os : Array Oper) (e : List AV) (h : List AO) (kn : List AV → List AO → Res) : Res :=
  match d with
  | some .quiet => opsQ V.P V.E os os.toList e h (quietEnd kn h)
  | some (.tail n) => opsQ V.P (fun _ _ _ _ => none) os (os.toList.take n) e h (tailK V os n h kn)
  | some (.any al ws cl) => opsG V.P V.E V.lock h.length (blocksOf e ws) os cl os.toList e (resv al.length h) kn
  | none => none
theorem c_draw0 (id : Nat) (os : Array Oper) : codeA V (.region id os true) e h kn kx kr = drawA V (V.dr id) os (forget e (V.er id)) h kn := by
  simp only [codeA, drawA]; rfl
/-- By the way that is known. -/
noncomputable def drawC (V : Env) (d : Option Way) (os : Array Oper) (kn : List AV → List AO → Res) : List AV → List AO → Res := fun e h => drawA V d os e h kn
theorem c_draw (id : Nat) (l : List Oper) : codeA V (.region id l.toArray true) e h kn kx kr = goA (forget e (V.er id)) h (drawC V (V.dr id) (Hd l.toArray ⟨⟩) (Hd kn ⟨⟩)) := c_draw0 id _
theorem draw_quiet (l : List Oper) (d1 : Dum l.toArray) (d2 : Dum kn) : drawC V (some .quiet) (Hd l.toArray d1) (Hd kn d2) e h = opsQ V.P V.E l.toArray l e h (quietEnd kn h) := nrfl rfl
theorem draw_tail (n : Nat) (l : List Oper) (d1 : Dum l.toArray) (d2 : Dum kn) : drawC V (some (.tail n)) (Hd l.toArray d1) (Hd kn d2) e h = opsQ V.P (fun _ _ _ _ => none) l.toArray (l.take n) e h (tailK V (Hd l.toArray ⟨⟩) n h kn) := nrfl rfl
theorem draw_any (al ws : List Nat) (cl : List GOp) (l : List Oper) (d1 : Dum l.toArray) (d2 : Dum kn) : drawC V (some (.any al ws cl)) (Hd l.toArray d1) (Hd kn d2) e h = goA e (resv al.length h) (opsGC V.P V.E V.lock h.length (blocksOf e ws) (Hd l.toArray ⟨⟩) cl (Hd l ⟨⟩) (Hd kn ⟨⟩)) := nrfl rfl
theorem c_cond (c : Operand) (a b : Code) : codeA V (.cond c a b) e h kn kx kr = condA (aeval e c) (codeT V (Hd a ⟨⟩) e h kn kx kr) (codeT V (Hd b ⟨⟩) e h kn kx kr) := by
  simp only [codeA, condA, condB, codeT, Hd]; rfl
theorem c_block (id : Nat) (b : Code) : codeA V (.block id b) e h kn kx kr = codeA V b e h kn (blockK id kn kx) kr := nrfl rfl
theorem c_loop (b : Code) : codeA V (.loop b) e h kn kx kr = iterA (loopF V (Hd b ⟨⟩) kx kr) V.fuel (e, h) := nrfl rfl
theorem c_scope (b : Code) : codeA V (.scope b) e h kn kx kr = codeA V b e h kn kx kr := nrfl rfl
theorem c_label (l : Nat) : codeA V (.label l) e h kn kx kr = kn e h := nrfl rfl
theorem c_exit (id : Nat) : codeA V (.exit id) e h kn kx kr = kx id e h := nrfl rfl
theorem c_ret : codeA V .ret e h kn kx kr = kr e h := nrfl rfl
end

/-! What is known of functions, in a list -/
abbrev Fn1 := List CV → Nat → List AO → Option (AV × List AO)
/-! Operations on values that are told -/
theorem forget_nil : forget e [] = e := nrfl rfl
theorem forget_cons (a : AV) (t : List AV) (d : Nat) (ds : List Nat) : forget (a :: t) (d :: ds) = forget ((a :: t).set d .und) ds := nrfl rfl
theorem setD_some (d : Tmp) (x : AV) : setD e (some d) x = e.set d x := nrfl rfl
theorem setD_none (x : AV) : setD e none x = e := nrfl rfl
theorem aeval_const (v : Value) : aeval e (.const v) = constA v := nrfl rfl
theorem aeval_func (f : FuncId) : aeval e (.func f) = .v (.sc (.fn f [] [])) := nrfl rfl
theorem aeval_tmp (t : Tmp) : aeval e (.tmp t) = e.getD t .und := nrfl rfl
theorem k_int (k : IntKind) (n : Int) : constA (.int k n) = .v (.sc (.int k n)) := nrfl rfl
theorem k_bool (b : Bool) : constA (.bool b) = .v (.sc (.bool b)) := nrfl rfl
theorem k_str (s : ByteArray) : constA (.string s) = .v (.sc (.str s)) := nrfl rfl
theorem k_nilp : constA (.pointer none) = .v (.sc .nilp) := nrfl rfl
theorem k_nils : constA (.slice none 0 0) = .v (.sc .nils) := nrfl rfl
theorem k_nilm : constA (.map none) = .v (.sc .nilm) := nrfl rfl
theorem k_nilf : constA .nilFunc = .v (.sc .nilf) := nrfl rfl
theorem k_nili : constA .nilIface = .v (.sc .nili) := nrfl rfl
theorem load_ptr (t : TypeId) (l o : Nat) : loadA P h t (.v (.sc (.ptr l o))) = (cellsAt h l).bind fun cs => (partA P t cs o).map .v := nrfl rfl
theorem part_sc {t : TypeId} (ha : aggT P t = some false) (cs : List SV) (o : Nat) : partA P t cs o = (cs[o]?).map .sc := by simp only [partA, ha]
theorem part_ag {t : TypeId} {n : Nat} (ha : aggT P t = some true) (hs : szT P t = some n) (cs : List SV) (o : Nat) : partA P t cs o = if o + n ≤ cs.length then some (.ag ((cs.drop o).take n)) else none := by simp only [partA, ha, hs]
theorem bin_int {op : BinOp} (h1 : op ≠ .shl) (h2 : op ≠ .shr) (t : TypeId) (k : IntKind) (a b : Int) : binOpA P op t (.v (.sc (.int k a))) (.v (.sc (.int k b))) = (binI op k a b).map fun z => .v (.sc z) := by
  unfold binOpA
  simp
/-! The heap -/
theorem cells_self (l : Nat) (t : TypeId) (cs : List SV) (hl : l = h.length) : cellsAt (h ++ [.rw t cs]) l = some cs := by subst hl; simp [cellsAt]
theorem cells_other (l : Nat) (o : AO) (hl : l < h.length) : cellsAt (h ++ [o]) l = cellsAt h l := by
  simp only [cellsAt]; rw [List.getElem?_append_left hl]
theorem cells_set (l : Nat) (t : TypeId) (cs : List SV) (hl : l < h.length) : cellsAt (h.set l (.rw t cs)) l = some cs := by
  simp only [cellsAt]; rw [List.getElem?_set_self hl]
theorem cells_set_ne (l l' : Nat) (o : AO) (hl : l' ≠ l) : cellsAt (h.set l o) l' = cellsAt h l' := by
  simp only [cellsAt]; rw [List.getElem?_set_ne (Ne.symm hl)]
theorem obj_self (l : Nat) (o : AO) (hl : l = h.length) : (h ++ [o])[l]? = some o := by subst hl; simp
theorem obj_other (l : Nat) (o : AO) (hl : l < h.length) : (h ++ [o])[l]? = h[l]? := List.getElem?_append_left hl
theorem set_self (l : Nat) (o o' : AO) (hl : l = h.length) : (h ++ [o]).set l o' = h ++ [o'] := by subst hl; simp
theorem set_other (l : Nat) (o o' : AO) (hl : l < h.length) : (h ++ [o]).set l o' = h.set l o' ++ [o] := by simp [List.set_append, hl]
theorem store_ptr (t : TypeId) (l o : Nat) (c : CV) : storeA P h lk t (.v (.sc (.ptr l o))) (.v c) = match h[l]? with | some (.rw e cs) => if lk ≤ l ∧ szT P t = some c.cells.length ∧ o + c.cells.length ≤ cs.length then some (h.set l (.rw e (splice cs o c.cells))) else none | _ => none := nrfl rfl
theorem add_int (t : TypeId) (k : IntKind) (a b : Int) : binOpA P .add t (.v (.sc (.int k a))) (.v (.sc (.int k b))) = some (.v (.sc (.int k (k.wrap (a + b))))) := bin_int (by decide) (by decide) t k a b
theorem sub_int (t : TypeId) (k : IntKind) (a b : Int) : binOpA P .sub t (.v (.sc (.int k a))) (.v (.sc (.int k b))) = some (.v (.sc (.int k (k.wrap (a - b))))) := bin_int (by decide) (by decide) t k a b
theorem mul_int (t : TypeId) (k : IntKind) (a b : Int) : binOpA P .mul t (.v (.sc (.int k a))) (.v (.sc (.int k b))) = some (.v (.sc (.int k (k.wrap (a * b))))) := bin_int (by decide) (by decide) t k a b
theorem quo_int (t : TypeId) (k : IntKind) (a b : Int) : binOpA P .quo t (.v (.sc (.int k a))) (.v (.sc (.int k b))) = if b = 0 then none else some (.v (.sc (.int k (k.wrap (a.tdiv b))))) := by
  rw [bin_int (by decide) (by decide)]; simp only [binI]; split <;> rfl
theorem rem_int (t : TypeId) (k : IntKind) (a b : Int) : binOpA P .rem t (.v (.sc (.int k a))) (.v (.sc (.int k b))) = if b = 0 then none else some (.v (.sc (.int k (a.tmod b)))) := by
  rw [bin_int (by decide) (by decide)]; simp only [binI]; split <;> rfl
theorem and_int (t : TypeId) (k : IntKind) (a b : Int) : binOpA P .and t (.v (.sc (.int k a))) (.v (.sc (.int k b))) = some (.v (.sc (.int k (bitsA .and k a b)))) := bin_int (by decide) (by decide) t k a b
theorem or_int (t : TypeId) (k : IntKind) (a b : Int) : binOpA P .or t (.v (.sc (.int k a))) (.v (.sc (.int k b))) = some (.v (.sc (.int k (bitsA .or k a b)))) := bin_int (by decide) (by decide) t k a b
theorem xor_int (t : TypeId) (k : IntKind) (a b : Int) : binOpA P .xor t (.v (.sc (.int k a))) (.v (.sc (.int k b))) = some (.v (.sc (.int k (bitsA .xor k a b)))) := bin_int (by decide) (by decide) t k a b
theorem andnot_int (t : TypeId) (k : IntKind) (a b : Int) : binOpA P .andNot t (.v (.sc (.int k a))) (.v (.sc (.int k b))) = some (.v (.sc (.int k (bitsA .andNot k a b)))) := bin_int (by decide) (by decide) t k a b
theorem eql_int (t : TypeId) (k : IntKind) (a b : Int) : binOpA P .eql t (.v (.sc (.int k a))) (.v (.sc (.int k b))) = some (.v (.sc (.bool (a == b)))) := bin_int (by decide) (by decide) t k a b
theorem neq_int (t : TypeId) (k : IntKind) (a b : Int) : binOpA P .neq t (.v (.sc (.int k a))) (.v (.sc (.int k b))) = some (.v (.sc (.bool (a != b)))) := bin_int (by decide) (by decide) t k a b
theorem lss_int (t : TypeId) (k : IntKind) (a b : Int) : binOpA P .lss t (.v (.sc (.int k a))) (.v (.sc (.int k b))) = some (.v (.sc (.bool (decide (a < b))))) := bin_int (by decide) (by decide) t k a b
theorem leq_int (t : TypeId) (k : IntKind) (a b : Int) : binOpA P .leq t (.v (.sc (.int k a))) (.v (.sc (.int k b))) = some (.v (.sc (.bool (decide (a ≤ b))))) := bin_int (by decide) (by decide) t k a b
theorem gtr_int (t : TypeId) (k : IntKind) (a b : Int) : binOpA P .gtr t (.v (.sc (.int k a))) (.v (.sc (.int k b))) = some (.v (.sc (.bool (decide (a > b))))) := bin_int (by decide) (by decide) t k a b
theorem geq_int (t : TypeId) (k : IntKind) (a b : Int) : binOpA P .geq t (.v (.sc (.int k a))) (.v (.sc (.int k b))) = some (.v (.sc (.bool (decide (a ≥ b))))) := bin_int (by decide) (by decide) t k a b
theorem shl_int (t : TypeId) (k k' : IntKind) (a b : Int) : binOpA P .shl t (.v (.sc (.int k a))) (.v (.sc (.int k' b))) = (shiftA .shl k a b).map fun z => .v (.sc z) := nrfl rfl
theorem shr_int (t : TypeId) (k k' : IntKind) (a b : Int) : binOpA P .shr t (.v (.sc (.int k a))) (.v (.sc (.int k' b))) = (shiftA .shr k a b).map fun z => .v (.sc z) := nrfl rfl
theorem not_bool (b : Bool) : unOpA .not (.v (.sc (.bool b))) = some (.v (.sc (.bool !b))) := nrfl rfl
theorem neg_int (k : IntKind) (n : Int) : unOpA .neg (.v (.sc (.int k n))) = some (.v (.sc (.int k (k.wrap (0 - n))))) := nrfl rfl
theorem pick_b (q : Bool) (x y : AV) : pickA (.v (.sc (.bool q))) x y = some (bif q then x else y) := nrfl rfl
theorem nil_ptr (l i : Nat) : nilA (.v (.sc (.ptr l i))) = some (.v (.sc (.ptr l i))) := nrfl rfl
theorem extract_tup (vs : List CV) (i : Nat) : extractA (.tup vs) i = (vs[i]?).map .v := nrfl rfl
theorem iaddr_ptr {t el : TypeId} {n s : Nat} (hu : P.underlying t = some (.array n el)) (hs : szT P el = some s) (l o : Nat) (k : IntKind) (i : Int) :
    indexAddrA P t (.v (.sc (.ptr l o))) (.v (.sc (.int k i))) = if 0 ≤ i ∧ i < n then some (.v (.sc (.ptr l (o + i.toNat * s)))) else none := by simp only [indexAddrA, hu, hs]
theorem iaddr_sl {t el : TypeId} {s : Nat} (hu : P.underlying t = some (.slice el)) (hs : szT P el = some s) (l o n z : Nat) (k : IntKind) (i : Int) :
    indexAddrA P t (.v (.sc (.sl l o n z))) (.v (.sc (.int k i))) = if 0 ≤ i ∧ i < n then some (.v (.sc (.ptr l (o + i.toNat * s)))) else none := by simp only [indexAddrA, hu, hs]
theorem len_sl {t el : TypeId} (hu : P.underlying t = some (.slice el)) (l o n z : Nat) : lenA P h t (.v (.sc (.sl l o n z))) = some (.v (.sc (.int .i64 n))) := by simp only [lenA, hu]
theorem len_nils {t el : TypeId} (hu : P.underlying t = some (.slice el)) : lenA P h t (.v (.sc .nils)) = some (.v (.sc (.int .i64 0))) := by simp only [lenA, hu]
theorem eql_ag (t : TypeId) (a b : List SV) : binOpA P .eql t (.v (.ag a)) (.v (.ag b)) = (eqA P t (.v (.ag a)) (.v (.ag b))).map fun b => .v (.sc (.bool b)) := nrfl rfl
theorem neq_ag (t : TypeId) (a b : List SV) : binOpA P .neq t (.v (.ag a)) (.v (.ag b)) = (eqA P t (.v (.ag a)) (.v (.ag b))).map fun b => .v (.sc (.bool !b)) := nrfl rfl
theorem eql_bool {t : TypeId} (hu : P.underlying t = some .bool) (a b : Bool) : binOpA P .eql t (.v (.sc (.bool a))) (.v (.sc (.bool b))) = some (.v (.sc (.bool (a == b)))) := by simp only [binOpA, eqA, hu, Option.map_some]
theorem neq_bool {t : TypeId} (hu : P.underlying t = some .bool) (a b : Bool) : binOpA P .neq t (.v (.sc (.bool a))) (.v (.sc (.bool b))) = some (.v (.sc (.bool (a != b)))) := by simp only [binOpA, eqA, hu, Option.map_some]; rfl
theorem conv_int {s t : TypeId} {k' : IntKind} {x : TypeDesc} (hs : P.underlying s = some x) (ht : P.underlying t = some (.int k')) (k : IntKind) (n : Int) : convertA P s t (.v (.sc (.int k n))) = some (.v (.sc (.int k' (k'.wrap n)))) := by simp only [convertA, hs, ht]
theorem min_int (k k' : IntKind) (a b : Int) : min2A (.v (.sc (.int k a))) (.v (.sc (.int k' b))) = some (.v (.sc (.int k (if b < a then b else a)))) := nrfl rfl
theorem max_int (k k' : IntKind) (a b : Int) : max2A (.v (.sc (.int k a))) (.v (.sc (.int k' b))) = some (.v (.sc (.int k (if a < b then b else a)))) := nrfl rfl
theorem store_at {t el : TypeId} {l o n : Nat} {cs : List SV} {c : CV} (hl : h[l]? = some (.rw el cs)) (hk : lk ≤ l) (hs : szT P t = some n) (hn : c.cells.length = n) (ho : o + n ≤ cs.length) :
    storeA P h lk t (.v (.sc (.ptr l o))) (.v c) = some (h.set l (.rw el (splice cs o c.cells))) := by
  simp only [store_ptr, hl, hs, hn, hk, ho, and_self, if_true]
theorem store_last {t el : TypeId} {n : Nat} (hs : szT P t = some n) (l o : Nat) (cs : List SV) (c : CV) (hl : l = h.length) (hk : lk ≤ l) (hn : c.cells.length = n) (ho : o + n ≤ cs.length) :
    storeA P (h ++ [.rw el cs]) lk t (.v (.sc (.ptr l o))) (.v c) = some (h ++ [.rw el (splice cs o c.cells)]) := by
  subst hl
  rw [store_at (el := el) (cs := cs) (n := n) (by simp) hk hs hn ho]
  simp
theorem store_skip (t : TypeId) (l o : Nat) (c : CV) (x : AO) (hl : l < h.length) : storeA P (h ++ [x]) lk t (.v (.sc (.ptr l o))) (.v c) = (storeA P h lk t (.v (.sc (.ptr l o))) (.v c)).map (· ++ [x]) := by
  simp only [store_ptr, List.getElem?_append_left hl]
  split
  · split
    · rw [List.set_append_left _ _ hl]; rfl
    · rfl
  · rfl
/-- Cells of a slice. -/
def cellsB (x : Option (List SV)) (o m : Nat) : Option (List SV) := match x with | some cs => if o + m ≤ cs.length then some ((cs.drop o).take m) else none | none => none
theorem cellsB_some (cs : List SV) (o m : Nat) (ho : o + m ≤ cs.length) : cellsB (some cs) o m = some ((cs.drop o).take m) := by simp only [cellsB]; rw [if_pos ho]
theorem sl_cells {e : TypeId} {s : Nat} (hs : szT P e = some s) (l o n : Nat) : sliceCells P h e (.v (.sc (.sl l o n s))) = cellsB (cellsAt h l) o (n * s) := by
  simp only [sliceCells, cellsB, hs, true_and]
  cases cellsAt h l <;> rfl
theorem sl_nils (e : TypeId) : sliceCells P h e (.v (.sc .nils)) = some [] := nrfl rfl
def appB (e s b lk : Nat) (h : List AO) (x : AV) (new : Option (List SV)) (k : AV → List AO → Res) : Res :=
  match new with
  | none => none
  | some new =>
    match x with
    | .v (.sc .nils) => if new.isEmpty then k x h else if new.length % s = 0 ∧ new.length / s * b ≤ 140737488355328 then k (.v (.sc (.sl h.length 0 (new.length / s) s))) (h ++ [.rw e new]) else none
    | .v (.sc (.sl l o n s')) =>
      if s' = s ∧ new.length % s = 0 then
        if new.isEmpty then k x h else
        match h[l]? with
        | some (.rw e' cs) => if lk ≤ l ∧ e' = e ∧ o + n * s = cs.length ∧ (n + new.length / s) * b ≤ 140737488355328 then k (.v (.sc (.sl h.length 0 (n + new.length / s) s))) (h.set l .dead ++ [.rw e (cs.drop o ++ new)])
            else if lk ≤ l ∧ e' = e ∧ o + n * s ≠ cs.length ∧ o + n * s + new.length ≤ cs.length then k (.v (.sc (.sl l o (n + new.length / s) s))) (h.set l (.rw e (splice cs (o + n * s) new))) else none
        | _ => none
      else none
    | _ => none
theorem append_at {t e : TypeId} {s b : Nat} {z : List SV} (hu : P.underlying t = some (.slice e)) (hs : szT P e = some s) (hb : bytesT P e = some b) (hz : zeroL P e = some z) (hs0 : s ≠ 0) (hb0 : b ≠ 0) (hzl : z.length = s) (x y : AV) (k : AV → List AO → Res) :
    eff1 (appendA P h lk t x y) k = appB e s b lk h x (sliceCells P h e y) k := by
  simp only [appendA, hu, hs, hb, hz, appB]
  cases sliceCells P h e y with
  | none => rfl
  | some new =>
    simp only [Option.bind_some]
    by_cases hm : new.length % s = 0
    · rw [if_neg (by simp only [hs0, hb0, hm, hzl, not_true_eq_false, ne_eq, or_self, not_false_eq_true])]
      cases x with
      | und => rfl
      | sk => rfl
      | tup _ => rfl
      | v c =>
        cases c with
        | ag _ => rfl
        | sc q =>
          cases q <;> try rfl
          · simp only
            cases new with
            | nil => rfl
            | cons v vs =>
              rw [if_neg (List.cons_ne_nil v vs), if_neg (show ¬ (v :: vs).isEmpty = true by simp)]
              by_cases hq : (v :: vs).length / s * b ≤ 140737488355328
              · rw [if_pos hq, if_pos ⟨hm, hq⟩]; rfl
              · rw [if_neg hq, if_neg (fun q => hq q.2)]; rfl
          · rename_i l o n s'
            simp only
            by_cases h1 : s' = s
            · rw [if_neg (show ¬ s' ≠ s by simpa using h1), if_pos (show s' = s ∧ new.length % s = 0 from ⟨h1, hm⟩)]
              cases new with
              | nil => rfl
              | cons v vs =>
                rw [if_neg (List.cons_ne_nil v vs), if_neg (show ¬ (v :: vs).isEmpty = true by simp)]
                cases hh : h[l]? with
                | none => rfl
                | some ao =>
                  cases ao <;> try rfl
                  rename_i e' cs
                  simp only
                  by_cases h2 : lk ≤ l ∧ e' = e
                  · rw [if_pos h2]
                    by_cases h3 : o + n * s = cs.length
                    · rw [if_pos h3]
                      by_cases h4 : (n + (v :: vs).length / s) * b ≤ 140737488355328
                      · rw [if_pos h4, if_pos ⟨h2.1, h2.2, h3, h4⟩]; rfl
                      · have n1 : ¬ (lk ≤ l ∧ e' = e ∧ o + n * s = cs.length ∧ (n + (v :: vs).length / s) * b ≤ 140737488355328) := fun q => h4 q.2.2.2
                        have n2 : ¬ (lk ≤ l ∧ e' = e ∧ o + n * s ≠ cs.length ∧ o + n * s + (v :: vs).length ≤ cs.length) := fun q => q.2.2.1 h3
                        rw [if_neg h4, if_neg n1, if_neg n2]; rfl
                    · have n1 : ¬ (lk ≤ l ∧ e' = e ∧ o + n * s = cs.length ∧ (n + (v :: vs).length / s) * b ≤ 140737488355328) := fun q => h3 q.2.2.1
                      rw [if_neg h3, if_neg n1]
                      by_cases h5 : o + n * s + (v :: vs).length ≤ cs.length
                      · have n2 : lk ≤ l ∧ e' = e ∧ o + n * s ≠ cs.length ∧ o + n * s + (v :: vs).length ≤ cs.length := ⟨h2.1, h2.2, h3, h5⟩
                        rw [if_pos h5, if_pos n2]; rfl
                      · have n2 : ¬ (lk ≤ l ∧ e' = e ∧ o + n * s ≠ cs.length ∧ o + n * s + (v :: vs).length ≤ cs.length) := fun q => h5 q.2.2.2
                        rw [if_neg h5, if_neg n2]; rfl
                  · have n1 : ¬ (lk ≤ l ∧ e' = e ∧ o + n * s = cs.length ∧ (n + (v :: vs).length / s) * b ≤ 140737488355328) := fun q => h2 ⟨q.1, q.2.1⟩
                    have n2 : ¬ (lk ≤ l ∧ e' = e ∧ o + n * s ≠ cs.length ∧ o + n * s + (v :: vs).length ≤ cs.length) := fun q => h2 ⟨q.1, q.2.1⟩
                    rw [if_neg h2, if_neg n1, if_neg n2]; rfl
            · rw [if_pos h1, if_neg (show ¬ (s' = s ∧ new.length % s = 0) from fun q => h1 q.1)]; rfl
    · rw [if_pos (by right; right; left; exact hm)]
      cases x with
      | und => rfl
      | sk => rfl
      | tup _ => rfl
      | v c =>
        cases c with
        | ag _ => rfl
        | sc q =>
          cases q <;> try rfl
          · simp only
            cases new with
            | nil => simp at hm
            | cons v vs => rw [if_neg (show ¬ (v :: vs).isEmpty = true by simp), if_neg (fun q => hm q.1)]; rfl
          · rename_i l o n s'
            simp only
            rw [if_neg (fun q => hm q.2)]; rfl
theorem appB_nils (e s b : Nat) (v : SV) (vs : List SV) (k : AV → List AO → Res) (hm : (v :: vs).length % s = 0) (hb : (v :: vs).length / s * b ≤ 140737488355328) :
    appB e s b lk h (.v (.sc .nils)) (some (v :: vs)) k = k (.v (.sc (.sl h.length 0 ((v :: vs).length / s) s))) (h ++ [.rw e (v :: vs)]) := by
  simp only [appB, List.isEmpty_cons, Bool.false_eq_true, if_false]; rw [if_pos ⟨hm, hb⟩]
def appC (e s b lk : Nat) (h : List AO) (l o n : Nat) (new : List SV) (x : Option AO) (k : AV → List AO → Res) : Res :=
  match x with
  | some (.rw e' cs) => if lk ≤ l ∧ e' = e ∧ o + n * s = cs.length ∧ (n + new.length / s) * b ≤ 140737488355328 then k (.v (.sc (.sl h.length 0 (n + new.length / s) s))) (h.set l .dead ++ [.rw e (cs.drop o ++ new)])
      else if lk ≤ l ∧ e' = e ∧ o + n * s ≠ cs.length ∧ o + n * s + new.length ≤ cs.length then k (.v (.sc (.sl l o (n + new.length / s) s))) (h.set l (.rw e (splice cs (o + n * s) new))) else none
  | _ => none
theorem appB_sl (e s b l o n : Nat) (v : SV) (vs : List SV) (k : AV → List AO → Res) (hm : (v :: vs).length % s = 0) : appB e s b lk h (.v (.sc (.sl l o n s))) (some (v :: vs)) k = appC e s b lk h l o n (v :: vs) h[l]? k := by
  simp only [appB, List.isEmpty_cons, Bool.false_eq_true, if_false, true_and]; rw [if_pos hm]; rfl
theorem appB_nil (e s b l o n : Nat) (k : AV → List AO → Res) : appB e s b lk h (.v (.sc (.sl l o n s))) (some []) k = k (.v (.sc (.sl l o n s))) h := by
  simp [appB]
theorem appB_nilnil (e s b : Nat) (k : AV → List AO → Res) : appB e s b lk h (.v (.sc .nils)) (some []) k = k (.v (.sc .nils)) h := by
  simp [appB]
theorem appC_rw (e s b l o n : Nat) (new cs : List SV) (k : AV → List AO → Res) (hl : lk ≤ l) (hc : o + n * s = cs.length) (hb : (n + new.length / s) * b ≤ 140737488355328) :
    appC e s b lk h l o n new (some (.rw e cs)) k = k (.v (.sc (.sl h.length 0 (n + new.length / s) s))) (h.set l .dead ++ [.rw e (cs.drop o ++ new)]) := by
  simp only [appC]; rw [if_pos ⟨hl, trivial, hc, hb⟩]
theorem splice_all (cs new : List SV) (hl : new.length = cs.length) : splice cs 0 new = new := by
  simp [splice, hl]
theorem splice_one (cs : List SV) (o : Nat) (x : SV) (ho : o < cs.length) : splice cs o [x] = cs.set o x := by
  simp only [splice, List.length_singleton]
  rw [List.set_eq_take_append_cons_drop, if_pos ho]
  simp
theorem cells_at {l : Nat} {el : TypeId} {cs : List SV} (hl : h[l]? = some (.rw el cs)) : cellsAt h l = some cs := by simp only [cellsAt, hl]
theorem cells_at_ro {l : Nat} {cs : List SV} (hl : h[l]? = some (.ro cs)) : cellsAt h l = some cs := by simp only [cellsAt, hl]
theorem part_all {t : TypeId} {n : Nat} (ha : aggT P t = some true) (hs : szT P t = some n) (cs : List SV) (hl : cs.length = n) : partA P t cs 0 = some (.ag cs) := by
  rw [part_ag ha hs, if_pos (by omega), List.drop_zero, List.take_of_length_le (by omega)]
theorem part_at {t : TypeId} {n : Nat} (ha : aggT P t = some true) (hs : szT P t = some n) (cs : List SV) (o : Nat) (hl : o + n ≤ cs.length) (hn : n < cs.length) : partA P t cs o = some (.ag ((cs.drop o).take n)) := by
  rw [part_ag ha hs, if_pos hl]
theorem wrap_i64 {n : Int} (h1 : -9223372036854775808 ≤ n) (h2 : n ≤ 9223372036854775807) : IntKind.i64.wrap n = n := by
  simp [IntKind.wrap, IntKind.bits, IntKind.signed]; omega
end
end Go.AM
