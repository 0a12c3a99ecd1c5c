/- The abstract machine: regions whose order is open. Conditions: none. -/
import Derived.Test.YtjhhjmngjmflaaaAmSound
set_option linter.unusedVariables false
set_option linter.unusedSimpArgs false
namespace Go.AM
/-! An operation looks at its operands alone. -/
section
variable {P : Program} {o : Oper} {e e' : List AV} {h : List AO} {lk : Nat}
theorem map_congr' {α β : Type} {f g : α → β} {l : List α} (hx : ∀ x ∈ l, f x = g x) : l.map f = l.map g := List.map_congr_left hx
theorem calleeA_congr (hx : ∀ x ∈ o.op.operands, aeval e x = aeval e' x) : calleeA o e = calleeA o e' := by
  unfold calleeA
  split
  · rename_i f args ts ho
    rw [ho] at hx
    have h1 : aeval e f = aeval e' f := hx f (by simp [Op.operands, Call.operands])
    have h2 : args.toList.map (aeval e) = args.toList.map (aeval e') := map_congr' fun x hm => hx x (by simp [Op.operands, Call.operands]; right; exact Array.mem_toList_iff.1 hm)
    rw [h1, h2]
  · rfl
theorem builtin_args {b : Builtin} {args : Array Operand} {ts : Array TypeId} (ho : o.op = .call { callee := .builtin b, args, argTypes := ts }) (hx : ∀ x ∈ o.op.operands, aeval e x = aeval e' x) :
    ∀ x ∈ args.toList, aeval e x = aeval e' x := fun x hm => hx x (by rw [ho]; simp [Op.operands, Call.operands]; exact Array.mem_toList_iff.1 hm)
theorem pureA_congr (hx : ∀ x ∈ o.op.operands, aeval e x = aeval e' x) : pureA P o e h = pureA P o e' h := by
  unfold pureA
  split
  case h_14 t x lo hi mx ho =>
    rw [ho] at hx
    have hm : ∀ y : Option Operand, (∀ z ∈ y.toArray, aeval e z = aeval e' z) → y.map (aeval e) = y.map (aeval e') := fun y hy => by
      cases y with
      | none => rfl
      | some z => simp only [Option.map_some]; rw [hy z (by simp)]
    rw [hx x (by simp [Op.operands]), hm lo fun z hz => hx z (by simp only [Op.operands, Array.mem_append]; exact .inl (.inl (.inr hz))), hm hi fun z hz => hx z (by simp only [Op.operands, Array.mem_append]; exact .inl (.inr hz)), hm mx fun z hz => hx z (by simp only [Op.operands, Array.mem_append]; exact .inr hz)]
  case h_15 t ps ho =>
    rw [ho] at hx
    rw [map_congr' (f := fun p : Nat × Operand => (p.1, aeval e p.2)) (g := fun p => (p.1, aeval e' p.2)) (l := ps.toList) fun p hp => by
      rw [hx p.2 (by simp only [Op.operands, List.mem_toArray, List.mem_map]; exact ⟨p, hp, rfl⟩)]]
  case h_16 f a c ho =>
    rw [ho] at hx
    have h1 : a.toList.map (aeval e) = a.toList.map (aeval e') := map_congr' fun x hm => hx x (by simp only [Op.operands, Array.mem_append]; exact .inl (Array.mem_toList_iff.1 hm))
    have h2 : c.toList.map (aeval e) = c.toList.map (aeval e') := map_congr' fun x hm => hx x (by simp only [Op.operands, Array.mem_append]; exact .inr (Array.mem_toList_iff.1 hm))
    rw [h1, h2]
  case h_17 args ts ho =>
    have hb := builtin_args ho hx
    split
    · rename_i hl _; rw [hl] at hb; rw [hb _ (by simp)]
    · rfl
  case h_18 args ts ho =>
    have hb := builtin_args ho hx
    split
    · rename_i hl; rw [hl] at hb; rw [hb _ (by simp), hb _ (by simp)]
    · rfl
  case h_19 args ts ho =>
    have hb := builtin_args ho hx
    split
    · rename_i hl; rw [hl] at hb; rw [hb _ (by simp), hb _ (by simp)]
    · rfl
  all_goals first
    | rfl
    | (rename_i ho; rw [ho] at hx; simp only [Op.operands, List.mem_toArray, List.mem_cons, List.not_mem_nil, or_false, forall_eq_or_imp, forall_eq] at hx; simp only [hx])
theorem effA_congr (hx : ∀ x ∈ o.op.operands, aeval e x = aeval e' x) : effA P o e lk h = effA P o e' lk h := by
  unfold effA
  split
  case h_5 t n ps ho =>
    rw [ho] at hx
    rw [map_congr' (f := fun p : Nat × Operand => (p.1, aeval e p.2)) (g := fun p => (p.1, aeval e' p.2)) (l := ps.toList) fun p hp => by
      rw [hx p.2 (by simp only [Op.operands, List.mem_toArray, List.mem_map]; exact ⟨p, hp, rfl⟩)]]
  case h_6 args ts ho =>
    have hb := builtin_args ho hx
    split
    · rename_i hl _; rw [hl] at hb; rw [hb _ (by simp), hb _ (by simp)]
    · rfl
  case h_8 t x lo hi mx ho =>
    rw [ho] at hx
    have hm : ∀ y : Option Operand, (∀ z ∈ y.toArray, aeval e z = aeval e' z) → y.map (aeval e) = y.map (aeval e') := fun y hy => by
      cases y with
      | none => rfl
      | some z => simp only [Option.map_some]; rw [hy z (by simp)]
    rw [hx x (by simp [Op.operands]), hm lo fun z hz => hx z (by simp only [Op.operands, Array.mem_append]; exact .inl (.inl (.inr hz))), hm hi fun z hz => hx z (by simp only [Op.operands, Array.mem_append]; exact .inl (.inr hz)), hm mx fun z hz => hx z (by simp only [Op.operands, Array.mem_append]; exact .inr hz)]
  case h_9 args ts ho =>
    have hb := builtin_args ho hx
    split
    · rename_i hl _; rw [hl] at hb; rw [hb _ (by simp)]
    · rfl
  case h_11 args ts ho =>
    have hb := builtin_args ho hx
    split
    · rename_i hl _; rw [hl] at hb; rw [hb _ (by simp), hb _ (by simp)]
    · rfl
  all_goals first
    | rfl
    | (rename_i ho; rw [ho] at hx; simp only [Op.operands, List.mem_toArray, List.mem_cons, List.not_mem_nil, or_false, forall_eq_or_imp, forall_eq] at hx; simp only [hx])
theorem stepA_congr {E : Ext} (hx : ∀ x ∈ o.op.operands, aeval e x = aeval e' x) : stepA P E lk o e h = stepA P E lk o e' h := by
  unfold stepA; rw [pureA_congr hx, calleeA_congr hx, effA_congr hx]
theorem quietA_congr {E : Ext} (hx : ∀ x ∈ o.op.operands, aeval e x = aeval e' x) : quietA P E o e h = quietA P E o e' h := by
  unfold quietA; rw [pureA_congr hx, calleeA_congr hx]
theorem aeval_setD {d : Option Tmp} {v : AV} {x : Operand} (hd : ∀ t, d = some t → x ≠ .tmp t) : aeval (setD e d v) x = aeval e x := by
  cases d with
  | none => rfl
  | some t =>
    cases x with
    | tmp u =>
      have : t ≠ u := fun q => hd t rfl (by rw [q])
      simp only [aeval, setD, List.getD_eq_getElem?_getD]
      rw [List.getElem?_set_ne this]
    | const _ => rfl
    | func _ => rfl
    | global _ => rfl
theorem looks_operands {ops : Array Oper} {d : Option Tmp} {v : AV} (hd : ∀ t, d = some t → t ∉ o.looksAt ops) : ∀ x ∈ o.op.operands, aeval (setD e d v) x = aeval e x := fun x hx =>
  aeval_setD fun t ht hxt => hd t ht (by subst hxt; exact List.mem_append_left _ (List.mem_filterMap.2 ⟨.tmp t, by simpa using hx, rfl⟩))
theorem wantedA_setD {ops : Array Oper} {d : Option Tmp} {v : AV} (hd : ∀ t, d = some t → t ∉ o.looksAt ops) : wantedA ops (setD e d v) o = wantedA ops e o := by
  unfold wantedA
  cases hg : o.guard with
  | none => rfl
  | some gw =>
    obtain ⟨g, want⟩ := gw
    simp only
    cases ht : (ops[g]?).bind (·.dst) with
    | none => rfl
    | some t =>
      simp only
      cases d with
      | none => rfl
      | some u =>
        have hne : u ≠ t := fun q => hd u rfl (by subst q; simp [Oper.looksAt, hg, ht])
        simp only [setD]
        rw [List.getElem?_set_ne hne]
theorem setD_comm {d d' : Option Tmp} {v v' : AV} (hd : ∀ t, d = some t → d' ≠ some t) : setD (setD e d v) d' v' = setD (setD e d' v') d v := by
  cases d with
  | none => rfl
  | some t =>
    cases d' with
    | none => rfl
    | some u =>
      have : t ≠ u := fun q => hd t rfl (by rw [q])
      simp only [setD]
      rw [List.set_comm _ _ this]
end
end Go.AM
/- The abstract machine: regions whose order is open: all orders come to one end. Conditions: none. -/
set_option linter.unusedVariables false
set_option linter.unusedSimpArgs false
namespace Go.AM
/-- An operation on slots alone. -/
def memfree (o : Oper) : Bool :=
  match o.op with
  | .move _ | .assign _ | .pick _ _ _ | .nilCheck _ | .binOp _ _ _ _ _ | .unOp _ _ _ | .convert _ _ _ | .fieldAddr _ _ _ | .field _ _ _ | .indexAddr _ _ _ | .index _ _ _ | .extract _ _ | .slice _ _ _ _ _ | .build _ _ => true
  | .makeFunc (.func _) _ _ => true
  | .call { callee := .builtin .min, .. } => true
  | .call { callee := .builtin .max, .. } => true
  | _ => false
theorem pureA_free {P : Program} {o : Oper} (hf : memfree o = true) (e : List AV) (h h' : List AO) : pureA P o e h = pureA P o e h' := by
  unfold memfree at hf
  unfold pureA
  split at hf <;> first | (cases hf; done) | (rename_i ho; simp only [ho])
/-- A new block, and where it lies. -/
def allocA (P : Program) (o : Oper) (e : List AV) : Option ((Nat → AV) × AO) :=
  match o.op with
  | .alloc t => (zeroL P t).map fun z => (fun l => .v (.sc (.ptr l 0)), .rw t z)
  | .box t x => match aeval e x with | .v c => some (fun l => .v (.sc (.ptr l 0)), .rw t c.cells) | _ => none
  | .buildSlice t n parts =>
    match P.underlying t with
    | some (.slice el) =>
      match szT P el, zeroL P el with
      | some s, some z =>
        if n * s ≤ 16777216 ∧ z.length = s ∧ s ≠ 0 then
          (fillA (fun i => some (i * s, s)) (List.replicate n z).flatten (parts.toList.map fun p => (p.1, aeval e p.2))).map fun cs => (fun l => .v (.sc (.sl l 0 n s)), .rw el cs)
        else none
      | _, _ => none
    | _ => none
  | _ => none
theorem allocA_congr {P : Program} {o : Oper} {e e' : List AV} (hx : ∀ x ∈ o.op.operands, aeval e x = aeval e' x) : allocA P o e = allocA P o e' := by
  unfold allocA
  split
  case h_3 t n ps ho =>
    rw [ho] at hx
    rw [map_congr' (f := fun p : Nat × Operand => (p.1, aeval e p.2)) (g := fun p => (p.1, aeval e' p.2)) (l := ps.toList) fun p hp => by
      rw [hx p.2 (by simp only [Op.operands, List.mem_toArray, List.mem_map]; exact ⟨p, hp, rfl⟩)]]
  all_goals first
    | rfl
    | (rename_i ho; rw [ho] at hx; simp only [Op.operands, List.mem_toArray, List.mem_cons, List.not_mem_nil, or_false, forall_eq_or_imp, forall_eq] at hx; simp only [hx])
/-- A copy of a slice, in a new block: append to nothing. -/
def copyS (P : Program) (h : List AO) (t : TypeId) (y : AV) : Option ((Nat → AV) × AO) :=
  match P.underlying t with
  | some (.slice e) =>
    match szT P e, bytesT P e, zeroL P e with
    | some s, some b, some z =>
      (sliceCells P h e y).bind fun new =>
      if s = 0 ∨ b = 0 ∨ new.length % s ≠ 0 ∨ z.length ≠ s ∨ ¬ new.length / s * b ≤ 140737488355328 then none
      else if new = [] then some (fun _ => .v (.sc .nils), .dead)
      else some (fun l => .v (.sc (.sl l 0 (new.length / s) s)), .rw e new)
    | _, _, _ => none
  | _ => none
def copyA (P : Program) (o : Oper) (e : List AV) (h : List AO) : Option ((Nat → AV) × AO) :=
  match o.op with
  | .call { callee := .builtin .append, args, argTypes } =>
    match args.toList, argTypes.toList with
    | [x, y], [t, t'] => if t = t' then match aeval e x with | .v (.sc .nils) => copyS P h t (aeval e y) | _ => none else none
    | _, _ => none
  | _ => none
theorem copyA_congr {P : Program} {o : Oper} {e e' : List AV} {h : List AO} (hx : ∀ x ∈ o.op.operands, aeval e x = aeval e' x) : copyA P o e h = copyA P o e' h := by
  unfold copyA
  split
  · rename_i args ts ho
    have hb := builtin_args ho hx
    split
    · rename_i hl _; rw [hl] at hb; rw [hb _ (by simp), hb _ (by simp)]
    · rfl
  · rfl
/-- A new block, or a copy. -/
def newA (P : Program) (o : Oper) (e : List AV) (h : List AO) : Option ((Nat → AV) × AO) :=
  match allocA P o e with
  | some p => some p
  | none => copyA P o e h
theorem newA_congr {P : Program} {o : Oper} {e e' : List AV} {h : List AO} (hx : ∀ x ∈ o.op.operands, aeval e x = aeval e' x) : newA P o e h = newA P o e' h := by
  unfold newA; rw [allocA_congr hx, copyA_congr hx]
theorem newA_copy {P : Program} {o : Oper} {e : List AV} {h : List AO} {p : (Nat → AV) × AO} (hc : copyA P o e h = some p) : newA P o e h = some p := by
  have : allocA P o e = none := by
    unfold copyA at hc
    split at hc
    · rename_i args ts ho
      unfold allocA; simp only [ho]
    · cases hc
  unfold newA; rw [this]; exact hc
theorem newA_alloc {P : Program} {o : Oper} {e : List AV} {h : List AO} {p : (Nat → AV) × AO} (hc : allocA P o e = some p) : newA P o e h = some p := by
  unfold newA; rw [hc]
/-- On slots alone; a load of an old block; reading, but not the blocks that it does not wait for; a new block; what leaves the old blocks alone, but for those told; anything. -/
inductive Cls where
  | m | l | r | a | x | w
  deriving DecidableEq
/-- Does an operation wait for another one? -/
def waits (o : Oper) (i : Nat) : Bool := o.after.any fun e => Region.binds .any e && e.on == i
/-- Reserved blocks of those that an operation does not wait for are as if they were not there. -/
def maskH (o : Oper) (base : Nat) : Nat → List Nat → List AO → List AO
  | _, [], h => h
  | k, i :: al, h => if waits o i then maskH o base (k + 1) al h else (maskH o base (k + 1) al h).set (base + k) .dead
theorem maskH_len (o : Oper) (base : Nat) : ∀ (al : List Nat) (k : Nat) (h : List AO), (maskH o base k al h).length = h.length
  | [], k, h => rfl
  | i :: al, k, h => by simp only [maskH]; split <;> simp [maskH_len o base al]
theorem maskH_comm (o : Oper) (base : Nat) (x : AO) : ∀ (al : List Nat) (k q : Nat) (h : List AO), q < k → maskH o base k al (h.set (base + q) x) = (maskH o base k al h).set (base + q) x
  | [], k, q, h, _ => rfl
  | i :: al, k, q, h, hq => by
    simp only [maskH]
    split
    · exact maskH_comm o base x al (k + 1) q h (by omega)
    · rw [maskH_comm o base x al (k + 1) q h (by omega), List.set_comm _ _ (by omega)]
theorem maskH_set (o : Oper) (base : Nat) (x : AO) : ∀ (al : List Nat) (k p i : Nat) (h : List AO), al[p]? = some i → waits o i = false → maskH o base k al (h.set (base + (k + p)) x) = maskH o base k al h
  | [], k, p, i, h, hp, _ => by simp at hp
  | j :: al, k, 0, i, h, hp, hw => by
    obtain rfl : j = i := by simpa using hp
    simp only [maskH, hw, Nat.add_zero, Bool.false_eq_true, if_false]
    rw [maskH_comm o base x al (k + 1) k h (by omega), List.set_set]
  | j :: al, k, p + 1, i, h, hp, hw => by
    have ih := maskH_set o base x al (k + 1) p i h (by simpa using hp) hw
    rw [show k + 1 + p = k + (p + 1) by omega] at ih
    simp only [maskH, ih]
theorem idx_get {al : List Nat} {j : Nat} (h : al.idxOf j < al.length) : al[al.idxOf j]? = some j := by
  rw [List.getElem?_eq_getElem h, List.getElem_idxOf]
theorem idx_inj {al : List Nat} {i j : Nat} (hi : al.idxOf i < al.length) (hj : al.idxOf j < al.length) (h : al.idxOf i = al.idxOf j) : i = j := by
  have h1 := idx_get hi
  have h2 := idx_get hj
  rw [h, h2] at h1
  exact (Option.some.inj h1).symm
def isDead (x : Option AO) : Bool := match x with | some .dead => true | _ => false
def NotIn (l : Nat) (ws : List Nat) : Prop := (∀ k, 2 * k ∈ ws → l ≠ k) ∧ ((∃ k, 2 * k + 1 ∈ ws) → 2 * l + 1 ∈ ws)
/-- Old blocks are as they were, but for some (2 k: not block k; any 2 k + 1: of these blocks alone). -/
def LowEq (ws : List Nat) (base : Nat) (h h' : List AO) : Prop := ∀ l, l < base → NotIn l ws → h'[l]? = h[l]?
noncomputable def readA (P : Program) (ws : List Nat) (base : Nat) (o : Oper) (e : List AV) (h : List AO) : Option AV :=
  match o.op with
  | .load t x =>
    match aeval e x with
    | .v (.sc (.ptr l i)) => open Classical in if l < base ∧ NotIn l ws then loadA P h t (.v (.sc (.ptr l i))) else none
    | _ => none
  | .call { callee := .builtin .len, .. } => pureA P o e []
  | _ => none
theorem lenA_any {P : Program} {t : TypeId} {x v : AV} {h : List AO} (hr : lenA P [] t x = some v) : lenA P h t x = some v := by
  unfold lenA at hr ⊢
  split at hr <;> first | exact hr | cases hr | (simp at hr)
theorem readA_pure {P : Program} {ws : List Nat} {base : Nat} {o : Oper} {e : List AV} {h : List AO} {v : AV} (hr : readA P ws base o e h = some v) : pureA P o e h = some v := by
  unfold readA at hr
  split at hr
  · rename_i t x ho
    split at hr
    · rename_i l i hx
      split at hr
      · unfold pureA; simp only [ho, hx]; exact hr
      · cases hr
    · cases hr
  · rename_i args ts ho
    unfold pureA at hr ⊢
    simp only [ho] at hr ⊢
    split at hr
    · exact lenA_any hr
    · cases hr
  · cases hr
theorem readA_low {P : Program} {ws : List Nat} {base : Nat} {o : Oper} {e : List AV} {h h' : List AO} (hl : LowEq ws base h h') : readA P ws base o e h' = readA P ws base o e h := by
  unfold readA
  split
  · rename_i t x ho
    split
    · rename_i l i hx
      split
      · rename_i hc
        unfold loadA cellsAt
        simp only [hl l hc.1 hc.2]
      · rfl
    · rfl
  · rfl
  · rfl
theorem readA_congr {P : Program} {ws : List Nat} {base : Nat} {o : Oper} {e e' : List AV} {h : List AO} (hx : ∀ x ∈ o.op.operands, aeval e x = aeval e' x) : readA P ws base o e h = readA P ws base o e' h := by
  unfold readA
  split
  · rename_i ho; rw [ho] at hx; simp only [Op.operands, List.mem_toArray, List.mem_cons, List.not_mem_nil, or_false, forall_eq_or_imp, forall_eq] at hx; rw [hx]
  · exact pureA_congr hx
  · rfl
theorem LowEq.set {ws : List Nat} {base l : Nat} {h : List AO} {x : AO} (hl : base ≤ l) : LowEq ws base h (h.set l x) := fun i hi _ => List.getElem?_set_ne (by omega)
section
variable (P : Program) (E : Ext) (lk base : Nat) (al ws : List Nat) (ops : Array Oper) (cs : List Cls)
/-- What an operation reads. -/
noncomputable def rdG (c : Cls) (o : Oper) (e : List AV) (h : List AO) : Option AV :=
  match c with
  | .m => if memfree o then pureA P o e h else none
  | .l => readA P ws base o e h
  | .r => quietA P E o e (maskH o base 0 al h)
  | _ => none
/-- What an operation does: its value, the heap behind it. -/
noncomputable def actG (j : Nat) (o : Oper) (e : List AV) (h : List AO) : Option (AV × List AO) :=
  match cs.getD j .w with
  | .a => (newA P o e (maskH o base 0 al h)).bind fun p => if al.idxOf j < al.length ∧ isDead h[base + al.idxOf j]? = true then some (p.1 (base + al.idxOf j), h.set (base + al.idxOf j) p.2) else none
  | .x => (stepA P E lk o e h).bind fun r => open Classical in if LowEq ws base h r.2 then some r else none
  | .w => stepA P E lk o e h
  | c => (rdG P E base al ws c o e h).map fun v => (v, h)
noncomputable def opG (j : Nat) (s : List AV × List AO) : Option (List AV × List AO) :=
  match ops[j]? with
  | none => some s
  | some o =>
    match wantedA ops s.1 o with
    | some true => (actG P E lk base al ws cs j o s.1 s.2).map fun r => (setD s.1 o.dst r.1, r.2)
    | some false => some (setD s.1 o.dst .sk, s.2)
    | none => none
end
def okPair : Cls → Cls → Bool
  | .m, _ => true
  | _, .m => true
  | .r, .r => true
  | .r, .a => true
  | .a, .r => true
  | .a, .a => true
  | .l, .l => true
  | .l, .r => true
  | .r, .l => true
  | .l, .a => true
  | .a, .l => true
  | .l, .x => true
  | .x, .l => true
  | _, _ => false
def isRd : Cls → Bool
  | .m | .l | .r => true
  | _ => false
section
variable {P : Program} {E : Ext} {lk base : Nat} {al ws : List Nat} {ops : Array Oper} {cs : List Cls}
theorem act_rd {j : Nat} (hc : isRd (cs.getD j .w) = true) (o : Oper) (e : List AV) (h : List AO) : actG P E lk base al ws cs j o e h = (rdG P E base al ws (cs.getD j .w) o e h).map fun v => (v, h) := by
  unfold actG
  split <;> first | rfl | (rename_i hq; rw [hq] at hc; cases hc)
theorem rd_inv {i j : Nat} {oi oj : Oper} {e : List AV} {h h' : List AO} {v : AV} (hok : okPair (cs.getD i .w) (cs.getD j .w) = true) (hr : isRd (cs.getD i .w) = true) (hnr : isRd (cs.getD j .w) = false) (wji : waits oi j = false)
    (ha : actG P E lk base al ws cs j oj e h = some (v, h')) : rdG P E base al ws (cs.getD i .w) oi e h' = rdG P E base al ws (cs.getD i .w) oi e h := by
  cases ci : cs.getD i .w with
  | m => simp only [rdG]; split
         · rename_i hf; exact pureA_free hf e h' h
         · rfl
  | l =>
    rw [ci] at hok
    simp only [rdG]
    refine readA_low ?_
    cases cj : cs.getD j .w with
    | m => rw [cj] at hnr; cases hnr
    | l => rw [cj] at hnr; cases hnr
    | r => rw [cj] at hnr; cases hnr
    | a =>
      simp only [actG, cj] at ha
      obtain ⟨p, hp, ha⟩ := Option.bind_eq_some_iff.1 ha
      split at ha
      · obtain ⟨rfl, rfl⟩ := Prod.mk.inj (Option.some.inj ha)
        exact LowEq.set (by omega)
      · cases ha
    | x =>
      simp only [actG, cj] at ha
      obtain ⟨p, hp, ha⟩ := Option.bind_eq_some_iff.1 ha
      split at ha
      · rename_i hlow
        obtain rfl := Option.some.inj ha
        exact hlow
      · cases ha
    | w => rw [cj] at hok; cases hok
  | r =>
    rw [ci] at hok
    cases cj : cs.getD j .w with
    | a =>
      simp only [actG, cj] at ha
      obtain ⟨p, hp, ha⟩ := Option.bind_eq_some_iff.1 ha
      split at ha
      · rename_i hd
        obtain ⟨rfl, rfl⟩ := Prod.mk.inj (Option.some.inj ha)
        have := maskH_set oi base p.2 al 0 (al.idxOf j) j h (idx_get hd.1) wji
        rw [Nat.zero_add] at this
        simp only [rdG, this]
      · cases ha
    | m => rw [cj] at hnr; cases hnr
    | l => rw [cj] at hnr; cases hnr
    | r => rw [cj] at hnr; cases hnr
    | x => rw [cj] at hok; cases hok
    | w => rw [cj] at hok; cases hok
  | a => rw [ci] at hr; cases hr
  | x => rw [ci] at hr; cases hr
  | w => rw [ci] at hr; cases hr
theorem okPair_comm (c d : Cls) : okPair c d = okPair d c := by cases c <;> cases d <;> rfl
theorem act_swap {i j : Nat} {oi oj : Oper} (hij : i ≠ j) (hok : okPair (cs.getD i .w) (cs.getD j .w) = true) (wij : waits oj i = false) (wji : waits oi j = false)
    {e : List AV} {h h1 h2 : List AO} {v1 v2 : AV} (a1 : actG P E lk base al ws cs i oi e h = some (v1, h1)) (a2 : actG P E lk base al ws cs j oj e h1 = some (v2, h2)) :
    ∃ h', actG P E lk base al ws cs j oj e h = some (v2, h') ∧ actG P E lk base al ws cs i oi e h' = some (v1, h2) := by
  cases ri : isRd (cs.getD i .w) with
  | true =>
    have a1' := a1
    rw [act_rd ri] at a1'
    obtain ⟨v, hv, he⟩ := Option.map_eq_some_iff.1 a1'
    obtain ⟨rfl, rfl⟩ := Prod.mk.inj he
    refine ⟨h2, a2, ?_⟩
    rw [act_rd ri]
    cases rj : isRd (cs.getD j .w) with
    | true =>
      rw [act_rd rj] at a2
      obtain ⟨v', hv', he⟩ := Option.map_eq_some_iff.1 a2
      obtain ⟨rfl, rfl⟩ := Prod.mk.inj he
      rw [hv]; rfl
    | false => rw [rd_inv hok ri rj wji a2, hv]; rfl
  | false =>
    cases rj : isRd (cs.getD j .w) with
    | true =>
      rw [act_rd rj] at a2
      obtain ⟨v', hv', he⟩ := Option.map_eq_some_iff.1 a2
      obtain ⟨rfl, rfl⟩ := Prod.mk.inj he
      rw [rd_inv (by rw [okPair_comm]; exact hok) rj ri wij a1] at hv'
      exact ⟨h, by rw [act_rd rj, hv']; rfl, a1⟩
    | false =>
      have hboth : cs.getD i .w = .a ∧ cs.getD j .w = .a := by
        revert hok ri rj
        cases cs.getD i .w <;> cases cs.getD j .w <;> simp [okPair, isRd]
      obtain ⟨ci, cj⟩ := hboth
      simp only [actG, ci] at a1
      obtain ⟨p, hp, a1⟩ := Option.bind_eq_some_iff.1 a1
      split at a1
      · rename_i hd
        obtain ⟨rfl, rfl⟩ := Prod.mk.inj (Option.some.inj a1)
        simp only [actG, cj] at a2
        obtain ⟨q, hq, a2⟩ := Option.bind_eq_some_iff.1 a2
        by_cases hjl : al.idxOf j < al.length
        · have hne : al.idxOf i ≠ al.idxOf j := fun q => hij (idx_inj hd.1 hjl q)
          have m1 := maskH_set oj base p.2 al 0 (al.idxOf i) i h (idx_get hd.1) wij
          rw [Nat.zero_add] at m1
          have m2 := maskH_set oi base q.2 al 0 (al.idxOf j) j h (idx_get hjl) wji
          rw [Nat.zero_add] at m2
          rw [m1] at hq
          rw [List.getElem?_set_ne (by omega)] at a2
          split at a2
          · rename_i hd2
            obtain ⟨rfl, rfl⟩ := Prod.mk.inj (Option.some.inj a2)
            refine ⟨h.set (base + al.idxOf j) q.2, by simp only [actG, cj, hq, Option.bind_some]; rw [if_pos hd2], ?_⟩
            simp only [actG, ci, m2, hp, Option.bind_some]
            rw [List.getElem?_set_ne (by omega), if_pos hd, List.set_comm _ _ (by omega)]
          · cases a2
        · rw [if_neg (fun q => hjl q.1)] at a2; cases a2
      · cases a1
theorem rdG_congr {c : Cls} {o : Oper} {e e' : List AV} {h : List AO} (hx : ∀ x ∈ o.op.operands, aeval e x = aeval e' x) : rdG P E base al ws c o e h = rdG P E base al ws c o e' h := by
  unfold rdG
  split
  · rw [pureA_congr hx]
  · exact readA_congr hx
  · exact quietA_congr hx
  · rfl
theorem actG_congr {j : Nat} {o : Oper} {e e' : List AV} {h : List AO} (hx : ∀ x ∈ o.op.operands, aeval e x = aeval e' x) : actG P E lk base al ws cs j o e h = actG P E lk base al ws cs j o e' h := by
  unfold actG
  split
  · rw [newA_congr hx]
  · rw [stepA_congr hx]
  · exact stepA_congr hx
  · rw [rdG_congr hx]
/-- Two operations that no order binds, and that may stand in either. -/
def indepB (ops : Array Oper) (cs : List Cls) (i j : Nat) : Bool :=
  match ops[i]?, ops[j]? with
  | some oi, some oj => oi.apart ops oj && okPair (cs.getD i .w) (cs.getD j .w) && !waits oj i && !waits oi j
  | _, _ => true
theorem op_swap {i j : Nat} (hij : i ≠ j) (hin : indepB ops cs i j = true) {s s1 s2 : List AV × List AO} (a1 : opG P E lk base al ws ops cs i s = some s1) (a2 : opG P E lk base al ws ops cs j s1 = some s2) :
    ∃ s', opG P E lk base al ws ops cs j s = some s' ∧ opG P E lk base al ws ops cs i s' = some s2 := by
  unfold opG at a1 a2 ⊢
  cases hi : ops[i]? with
  | none =>
    rw [hi] at a1
    obtain rfl := Option.some.inj a1
    exact ⟨s2, a2, rfl⟩
  | some oi =>
    cases hj : ops[j]? with
    | none =>
      rw [hj] at a2
      obtain rfl := Option.some.inj a2
      exact ⟨s, rfl, by rw [hi] at a1; exact a1⟩
    | some oj =>
      rw [hi] at a1
      rw [hj] at a2
      simp only at a1 a2 ⊢
      simp only [indepB, hi, hj, Bool.and_eq_true, Bool.not_eq_true'] at hin
      obtain ⟨⟨⟨hap, hok⟩, wij⟩, wji⟩ := hin
      obtain ⟨p1, p2, p3⟩ := Oper.apart_spec hap
      have hci : ∀ (e : List AV) v, wantedA ops (setD e oj.dst v) oi = wantedA ops e oi := fun e v => wantedA_setD p3
      have hcj : ∀ (e : List AV) v, wantedA ops (setD e oi.dst v) oj = wantedA ops e oj := fun e v => wantedA_setD p1
      have xi : ∀ (e : List AV) v h, actG P E lk base al ws cs i oi (setD e oj.dst v) h = actG P E lk base al ws cs i oi e h := fun e v h => actG_congr (looks_operands p3)
      have xj : ∀ (e : List AV) v h, actG P E lk base al ws cs j oj (setD e oi.dst v) h = actG P E lk base al ws cs j oj e h := fun e v h => actG_congr (looks_operands p1)
      have li : i < ops.size := (Array.getElem?_eq_some_iff.1 hi).1
      have lj : j < ops.size := (Array.getElem?_eq_some_iff.1 hj).1
      cases wi : wantedA ops s.1 oi with
      | none => rw [wi] at a1; cases a1
      | some bi =>
        cases bi with
        | false =>
          rw [wi] at a1
          obtain rfl := Option.some.inj a1
          simp only [hcj, xj] at a2
          cases wj : wantedA ops s.1 oj with
          | none => rw [wj] at a2; cases a2
          | some bj =>
            cases bj with
            | false =>
              rw [wj] at a2
              obtain rfl := Option.some.inj a2
              exact ⟨_, rfl, by simp only [hci, wi]; rw [setD_comm p2]⟩
            | true =>
              rw [wj] at a2
              obtain ⟨r, hr, rfl⟩ := Option.map_eq_some_iff.1 a2
              exact ⟨_, by rw [hr]; rfl, by simp only [hci, wi]; rw [setD_comm p2]⟩
        | true =>
          rw [wi] at a1
          obtain ⟨r, hr, rfl⟩ := Option.map_eq_some_iff.1 a1
          simp only [hcj, xj] at a2
          cases wj : wantedA ops s.1 oj with
          | none => rw [wj] at a2; cases a2
          | some bj =>
            cases bj with
            | false =>
              rw [wj] at a2
              obtain rfl := Option.some.inj a2
              exact ⟨_, rfl, by simp only [hci, wi, xi, hr, Option.map_some]; rw [setD_comm p2]⟩
            | true =>
              rw [wj] at a2
              obtain ⟨q, hq, rfl⟩ := Option.map_eq_some_iff.1 a2
              obtain ⟨h', b1, b2⟩ := act_swap hij hok wij wji (e := s.1) (v1 := r.1) (h1 := r.2) (v2 := q.1) (h2 := q.2) (by rw [hr]) (by rw [hq])
              exact ⟨_, by rw [b1]; rfl, by simp only [hci, wi, xi, b2, Option.map_some]; rw [setD_comm p2]⟩
/-- Text order, of those that are left. -/
noncomputable def runL (P : Program) (E : Ext) (lk base : Nat) (al ws : List Nat) (ops : Array Oper) (cs : List Cls) : List Nat → List AV × List AO → Option (List AV × List AO)
  | [], s => some s
  | j :: l, s => (opG P E lk base al ws ops cs j s).bind (runL P E lk base al ws ops cs l)
/-- One of them first. -/
theorem run_front {j : Nat} : ∀ (l1 l2 : List Nat) {s z : List AV × List AO}, (∀ i ∈ l1, i ≠ j ∧ indepB ops cs i j = true) → runL P E lk base al ws ops cs (l1 ++ j :: l2) s = some z →
    ∃ s', opG P E lk base al ws ops cs j s = some s' ∧ runL P E lk base al ws ops cs (l1 ++ l2) s' = some z
  | [], l2, s, z, _, h => by
    obtain ⟨s', h1, h2⟩ := Option.bind_eq_some_iff.1 h
    exact ⟨s', h1, h2⟩
  | i :: l1, l2, s, z, hin, h => by
    obtain ⟨s1, h1, h2⟩ := Option.bind_eq_some_iff.1 h
    obtain ⟨s2, h3, h4⟩ := run_front l1 l2 (fun k hk => hin k (List.mem_cons_of_mem _ hk)) h2
    obtain ⟨a, b⟩ := hin i List.mem_cons_self
    obtain ⟨s', h5, h6⟩ := op_swap a b h1 h3
    exact ⟨s', h5, by simp only [List.cons_append, runL, h6, Option.bind_some]; exact h4⟩
end
end Go.AM
/- The abstract machine: regions whose order is open: any order, from the text's. Conditions: none. -/
set_option linter.unusedVariables false
set_option linter.unusedSimpArgs false
namespace Go.AM
/-- Every order leads to z. -/
def anyG (P : Program) (E : Ext) (lk base : Nat) (al ws : List Nat) (ops : Array Oper) (cs : List Cls) (z : List AV × List AO) : Nat → Array Bool → List AV × List AO → Prop
  | 0, listed, s => Region.ready .any ops listed = [] ∧ s = z
  | n + 1, listed, s => (Region.ready .any ops listed = [] → s = z) ∧ ∀ j ∈ Region.ready .any ops listed, ∃ s', opG P E lk base al ws ops cs j s = some s' ∧ anyG P E lk base al ws ops cs z n (listed.setIfInBounds j true) s'
/-- Does an operation wait for another one, over others? -/
def waitsN (ops : Array Oper) : Nat → Nat → Nat → Bool
  | 0, _, _ => false
  | n + 1, j, i => match ops[j]? with | some o => waits o i || o.after.any fun e => Region.binds .any e && (decide (i < e.on) && waitsN ops n e.on i) | none => false
/-- Who is listed, for him all that bind him are. -/
def ClosedL (ops : Array Oper) (listed : Array Bool) : Prop := ∀ (j : Nat) o, ops[j]? = some o → listed.getD j false = true → ∀ e ∈ o.after, Region.binds .any e = true → listed.getD e.on false = true
theorem waitsN_listed {ops : Array Oper} {listed : Array Bool} (hc : ClosedL ops listed) {i : Nat} : ∀ (n j : Nat), waitsN ops n j i = true → (∀ o, ops[j]? = some o → ∀ e ∈ o.after, Region.binds .any e = true → listed.getD e.on false = true) → listed.getD i false = true
  | 0, j, h, _ => by simp [waitsN] at h
  | n + 1, j, h, hj => by
    unfold waitsN at h
    split at h
    · rename_i o ho
      rcases Bool.or_eq_true_iff.1 h with h | h
      · simp only [waits, Array.any_eq_true'] at h
        obtain ⟨e, he, h⟩ := h
        simp only [Bool.and_eq_true, beq_iff_eq] at h
        rw [← h.2]; exact hj o ho e he h.1
      · simp only [Array.any_eq_true'] at h
        obtain ⟨e, he, h⟩ := h
        simp only [Bool.and_eq_true] at h
        exact waitsN_listed hc n e.on h.2.2 fun o' ho' e' he' hb => hc e.on o' ho' (hj o ho e he h.1) e' he' hb
    · cases h
def backB (ops : Array Oper) (j : Nat) : Bool := match ops[j]? with | some o => o.after.all fun e => !Region.binds .any e || decide (e.on < j) | none => true
/-- Edges lead back; what is not bound may stand in any order. -/
def lexG (ops : Array Oper) (cs : List Cls) : Bool :=
  Region.noSelect ops && (List.range ops.size).all fun j => backB ops j && (List.range j).all fun i => waitsN ops 8 j i || indepB ops cs i j
def left (m : Nat) (listed : Array Bool) : List Nat := (List.range m).filter fun i => !listed.getD i true
section
variable {P : Program} {E : Ext} {lk base : Nat} {al ws : List Nat} {ops : Array Oper} {cs : List Cls}
theorem lexG_pair (h : lexG ops cs = true) {i j : Nat} (hij : i < j) (hj : j < ops.size) : waitsN ops 8 j i = true ∨ indepB ops cs i j = true := by
  simp only [lexG, Bool.and_eq_true, List.all_eq_true, List.mem_range, Bool.or_eq_true] at h
  exact (h.2 j hj).2 i hij
theorem lexG_back (h : lexG ops cs = true) {j : Nat} {o : Oper} (ho : ops[j]? = some o) : ∀ e ∈ o.after, Region.binds .any e = true → e.on < j := by
  have hj : j < ops.size := (Array.getElem?_eq_some_iff.1 ho).1
  simp only [lexG, Bool.and_eq_true, List.all_eq_true, List.mem_range, Bool.or_eq_true] at h
  have := (h.2 j hj).1
  simp only [backB, ho, Array.all_eq_true_iff_forall_mem] at this
  intro e he hb
  have := this e he
  simp only [hb, Bool.not_true, Bool.false_or, decide_eq_true_eq] at this
  exact this
theorem mem_left {m i : Nat} {listed : Array Bool} : i ∈ left m listed ↔ i < m ∧ listed.getD i true = false := by simp [left]
theorem left_set {m j : Nat} {listed : Array Bool} (hj : j < listed.size) {l1 l2 : List Nat} (h : left m listed = l1 ++ j :: l2) : left m (listed.setIfInBounds j true) = l1 ++ l2 := by
  have hnd : (left m listed).Nodup := List.Pairwise.filter _ List.nodup_range
  have h1 : left m (listed.setIfInBounds j true) = (left m listed).filter fun i => i != j := by
    simp only [left, List.filter_filter]
    apply List.filter_congr
    intro i _
    by_cases hi : i = j
    · subst hi; simp [hj]
    · rw [getD_set_ne true (Ne.symm hi)]; simp [hi]
  rw [h1, h]
  rw [h] at hnd
  have hn := List.nodup_append.1 hnd
  rw [List.filter_append, List.filter_cons_of_neg (by simp)]
  rw [List.filter_eq_self.2, List.filter_eq_self.2]
  · intro a ha; simp only [bne_iff_ne]; rintro rfl; exact (List.nodup_cons.1 hn.2.1).1 ha
  · intro a ha; simp only [bne_iff_ne]; rintro rfl; exact hn.2.2 _ ha _ List.mem_cons_self rfl
theorem any_of_run (hlex : lexG ops cs = true) {z : List AV × List AO} : ∀ (n : Nat) (listed : Array Bool) (s : List AV × List AO), listed.size = ops.size → ClosedL ops listed → (left ops.size listed).length = n →
    runL P E lk base al ws ops cs (left ops.size listed) s = some z → anyG P E lk base al ws ops cs z n listed s := by
  intro n
  induction n with
  | zero =>
    intro listed s hs hcl hn hr
    have h0 : left ops.size listed = [] := List.length_eq_zero_iff.1 hn
    rw [h0] at hr
    refine ⟨?_, Option.some.inj hr⟩
    refine List.eq_nil_iff_forall_not_mem.2 fun j hj => ?_
    obtain ⟨h1, o, ho, _⟩ := mem_ready.1 hj
    have : j ∈ left ops.size listed := mem_left.2 ⟨(Array.getElem?_eq_some_iff.1 ho).1, h1⟩
    rw [h0] at this; cases this
  | succ n ih =>
    intro listed s hs hcl hn hr
    refine ⟨fun he => ?_, fun j hj => ?_⟩
    · exfalso
      cases hl : left ops.size listed with
      | nil => rw [hl] at hn; cases hn
      | cons j l =>
        have hj : j ∈ left ops.size listed := by rw [hl]; exact List.mem_cons_self
        obtain ⟨h1, h2⟩ := mem_left.1 hj
        have ho : ops[j]? = some ops[j] := Array.getElem?_eq_getElem h1
        have hmin : ∀ i, i < j → listed.getD i false = true := fun i hi => by
          have hni : i ∉ left ops.size listed := by
            have hsrt : (left ops.size listed).Pairwise (· < ·) := List.Pairwise.filter _ List.pairwise_lt_range
            rw [hl] at hsrt ⊢
            intro hm
            rcases List.mem_cons.1 hm with rfl | hm
            · omega
            · have := (List.pairwise_cons.1 hsrt).1 i hm; omega
          have := fun h => hni (mem_left.2 ⟨by omega, h⟩)
          have hlt : i < listed.size := by omega
          simp only [Array.getD_eq_getD_getElem?, Array.getElem?_eq_getElem hlt, Option.getD_some] at this ⊢
          simpa using this
        have : j ∈ Region.ready .any ops listed := mem_ready.2 ⟨h2, _, ho, fun e hem hb => hmin _ (lexG_back hlex ho e hem hb)⟩
        rw [he] at this; cases this
    · obtain ⟨h1, o, ho, h3⟩ := mem_ready.1 hj
      have hjl : j ∈ left ops.size listed := mem_left.2 ⟨(Array.getElem?_eq_some_iff.1 ho).1, h1⟩
      obtain ⟨l1, l2, hl⟩ := List.append_of_mem hjl
      have hsrt : (left ops.size listed).Pairwise (· < ·) := List.Pairwise.filter _ List.pairwise_lt_range
      rw [hl] at hsrt
      have hlt : ∀ i ∈ l1, i < j := fun i hi => (List.pairwise_append.1 hsrt).2.2 i hi j List.mem_cons_self
      have hj' : j < ops.size := (Array.getElem?_eq_some_iff.1 ho).1
      rw [hl] at hr
      obtain ⟨s', k1, k2⟩ := run_front l1 l2 (fun i hi => ⟨by have := hlt i hi; omega, by
        rcases lexG_pair hlex (hlt i hi) hj' with hw | hw
        · exfalso
          have this := waitsN_listed hcl 8 j hw fun o' ho' e' he' hb => by
            rw [ho] at ho'
            obtain rfl := Option.some.inj ho'
            exact h3 e' he' hb
          have him : i ∈ left ops.size listed := by rw [hl]; exact List.mem_append_left _ hi
          have h4 := (mem_left.1 him).2
          have hlt : i < listed.size := by have := (mem_left.1 him).1; omega
          simp only [Array.getD_eq_getD_getElem?, Array.getElem?_eq_getElem hlt, Option.getD_some] at this h4
          rw [this] at h4; cases h4
        · exact hw⟩) hr
      have hset := left_set (m := ops.size) (listed := listed) (by omega) hl
      have hmono : ∀ x, listed.getD x false = true → (listed.setIfInBounds j true).getD x false = true := fun x hx => by
        by_cases hxj : x = j
        · subst hxj
          have : x < listed.size := by omega
          simp [Array.getD_eq_getD_getElem?, this]
        · rw [getD_set_ne false (Ne.symm hxj)]; exact hx
      have hcl' : ClosedL ops (listed.setIfInBounds j true) := fun k o' ho' hk e' he' hb => hmono _ (by
        by_cases hkj : k = j
        · subst hkj
          rw [ho] at ho'
          obtain rfl := Option.some.inj ho'
          exact h3 e' he' hb
        · rw [getD_set_ne false (Ne.symm hkj)] at hk
          exact hcl k o' ho' hk e' he' hb)
      refine ⟨s', k1, ih _ s' (by simp [hs]) hcl' ?_ (by rw [hset]; exact k2)⟩
      rw [hset]; rw [hl] at hn; simp at hn ⊢; omega
end
end Go.AM
/- The abstract machine: regions whose order is open: what the model does. Conditions: none. -/
set_option linter.unusedVariables false
set_option linter.unusedSimpArgs false
namespace Go.AM
section
variable {P : Program} {g : G} {h : List AO} {w : World} {W : Nat → Prop} {w0 : World} {lock : Nat}
/-- A reserved block is born. -/
theorem HSt.born (H : HSt W w0 lock g h w) {l : Nat} (hl : h[l]? = some .dead) (e : TypeId) (cs : List SV) (C : Array Value) (hb : g.blk l = w.heap.size) (hof : g.off l = 0) (hsz : g.siz l = C.size)
    (hle : cs.length ≤ C.size) (hc : ∀ (i : Nat) (x : SV), cs[i]? = some x → ∃ v : Value, C[i]? = some v ∧ SRel g h.length x v) :
    HSt W w0 lock g (h.set l (.rw e cs)) (w.alloc (.cells C e)) := by
  have Hr : HRel g h (w.alloc (.cells C e)) := H.rel.world fun l hl => Go.RowKit.Below.heap_alloc _ _ _ (H.rel.lt hl)
  have hlt : l < h.length := (List.getElem?_eq_some_iff.1 hl).1
  have hold : ∀ i q, i ≠ l → (h.set l (.rw e cs))[i]? = some q → h[i]? = some q := fun i q hi hq => by rwa [List.getElem?_set_ne (Ne.symm hi)] at hq
  have hne : ∀ i, i ≠ l → isLive (h.set l (.rw e cs)) i → g.blk i ≠ g.blk l := fun i hi ⟨q, hq, hv⟩ => by
    have := H.rel.lt ⟨q, hold i q hi hq, hv⟩
    omega
  refine ⟨⟨?_, ?_⟩, H.keep.alloc _, ?_⟩
  · intro i q hq
    rw [List.length_set]
    by_cases hi : i = l
    · subst hi
      rw [List.getElem?_set_self hlt] at hq
      obtain rfl := Option.some.inj hq
      refine ⟨C, ?_, by rw [hof, hsz]; omega, by rw [hsz]; exact hle, fun i x hx => ?_⟩
      · rw [hb]
        show (w.heap.push _)[w.heap.size]? = _
        simp
      · obtain ⟨v, h1, h2⟩ := hc i x hx
        exact ⟨v, by rw [hof, Nat.zero_add]; exact h1, h2⟩
    · exact Hr.obj i q (hold i q hi hq)
  · intro i j hij hi hj
    by_cases h1 : i = l
    · subst h1
      exact fun q => hne j (Ne.symm hij) hj q.symm
    · by_cases h2 : j = l
      · subst h2; exact hne i h1 hi.live
      · obtain ⟨q, hq, hv⟩ := hi
        obtain ⟨q', hq', hv'⟩ := hj
        exact H.rel.excl i j hij ⟨q, hold i q h1 hq, hv⟩ ⟨q', hold j q' h2 hq', hv'⟩
  · intro i hi hr
    by_cases h1 : i = l
    · subst h1; right; rw [hb]; exact H.keep.size
    · obtain ⟨q, hq, hv⟩ := hr
      exact H.own i hi ⟨q, hold i q h1 hq, hv⟩
/-- What an allocation does. -/
theorem allocA_sound {o : Oper} {e : List AV} {a : Act} {n : Nat} (hE : ERel g n e a.tmps) {mk : Nat → AV} {ao : AO} (hr : allocA P o e = some (mk, ao)) :
    ∃ (t : TypeId) (z : List SV) (C : Array Value) (val : Nat → Value), ao = .rw t z ∧ (∀ (g : G) (n l b : Nat), l < n → g.blk l = b → g.off l = 0 → g.siz l = C.size → VRel g n (mk l) (val b)) ∧
      (∀ w, (execOp a.eval o).run P w = .ok (.value (val w.heap.size)) (w.alloc (.cells C t))) ∧
      z.length ≤ C.size ∧ ∀ (i : Nat) (x : SV), z[i]? = some x → ∃ v : Value, C[i]? = some v ∧ SRel g n x v := by
  unfold allocA at hr
  split at hr
  · rename_i t ho
    obtain ⟨z, hz, hr⟩ := Option.map_eq_some_iff.1 hr
    obtain ⟨rfl, rfl⟩ := Prod.mk.inj hr
    obtain ⟨zv, h1, h2⟩ := zero_sound (P := P) (g := g) (n := n) hz
    have hl := SRelL.length h2
    simp only [Array.length_toList] at hl
    refine ⟨t, z, zv.cells, fun b => .pointer (some ⟨b, 0, none⟩), rfl, fun g n l b h1 h2 h3 h4 => ?_, fun w => ?_, by omega, fun i x hx => ?_⟩
    · simp only [VRel, CRel, SRel]; exact ⟨h1, by simp [h2, h3]⟩
    · simp [execOp, ho, Instr.alloc, h1, newVar, newRow]
    · obtain ⟨v, p1, p2⟩ := SRelL.get h2 i x hx
      exact ⟨v, by rw [← p1]; simp, p2⟩
  · rename_i t x ho
    split at hr
    · rename_i c hc
      obtain ⟨rfl, rfl⟩ := Prod.mk.inj (Option.some.inj hr)
      have hx := aeval_rel hE x
      rw [hc] at hx
      have h2 : SRelL g n c.cells (a.eval x).cells.toList := CRel.cells hx
      have hl := SRelL.length h2
      simp only [Array.length_toList] at hl
      refine ⟨t, c.cells, (a.eval x).cells, fun b => .pointer (some ⟨b, 0, none⟩), rfl, fun g n l b h1 h2 h3 h4 => ?_, fun w => ?_, by omega, fun i y hy => ?_⟩
      · simp only [VRel, CRel, SRel]; exact ⟨h1, by simp [h2, h3]⟩
      · simp [execOp, ho, Instr.box, newVar, newRow]
      · obtain ⟨v, p1, p2⟩ := SRelL.get h2 i y hy
        exact ⟨v, by rw [← p1]; simp, p2⟩
    · cases hr
  · rename_i t m parts ho
    have ev := fun x => aeval_rel hE x
    split at hr
    · rename_i el hu
      split at hr
      · rename_i s z hs hz
        split at hr
        · rename_i hc
          obtain ⟨hbig, hzl, hs0⟩ := hc
          obtain ⟨cs, hcs, hr⟩ := Option.map_eq_some_iff.1 hr
          obtain ⟨rfl, rfl⟩ := Prod.mk.inj hr
          obtain ⟨zv, hzv, hzr⟩ := zero_sound (P := P) (g := g) (n := n) hz
          have hZ := zeros_rel (m := m) hzr hzl hs0
          obtain ⟨C, hC, hrel⟩ := fill_sound (g := g) (n := n) (place := fun i => some (i * s, s)) (parts := parts.toList.map fun p => (p.1, aeval e p.2)) (vps := (parts.map fun p => (p.1, a.eval p.2)).toList) (by simp) (fun i p hp => by
            simp only [List.getElem?_map, Option.map_eq_some_iff] at hp
            obtain ⟨q, hq, rfl⟩ := hp
            refine ⟨(q.1, a.eval q.2), ?_, rfl, ev _⟩
            rw [Array.toList_map, List.getElem?_map, hq]; rfl) hZ hcs
          have hlen := SRelL.length hrel
          simp only [Array.length_toList] at hlen
          have hfl : ∀ {place : Nat → Option (Nat × Nat)} (ps : List (Nat × AV)) (c d : List SV), fillA place c ps = some d → d.length = c.length := by
            intro place ps
            induction ps with
            | nil => intro c d hd; obtain rfl := Option.some.inj hd; rfl
            | cons p ps ih =>
              obtain ⟨i, x⟩ := p
              intro c d hd
              cases x with
              | v x =>
                simp only [fillA] at hd
                split at hd
                · split at hd
                  · rename_i hq
                    rw [ih _ _ hd, splice_length (by omega)]
                  · cases hd
                · cases hd
              | und => simp [fillA] at hd
              | sk => simp [fillA] at hd
              | tup _ => simp [fillA] at hd
          have hcl : cs.length = m * s := by rw [hfl _ _ _ hcs]; simp [hzl]
          refine ⟨el, cs, C, fun b => .slice (some ⟨b, 0, none⟩) m m, rfl, fun g n l b h1 h2 h3 h4 => ?_, fun w => ?_, by omega, fun i q hq => by
            obtain ⟨v, p1, p2⟩ := SRelL.get hrel i q hq
            exact ⟨v, by rw [← p1, Array.getElem?_toList], p2⟩⟩
          · simp only [VRel, CRel, SRel]
            refine ⟨h1, m, 0, none, Nat.le_refl _, ?_, ?_, ?_⟩
            · rw [h4]; omega
            · right; exact ⟨by omega, rfl⟩
            · simp [h2]
          · have hrun : (Instr.buildSlice t m (parts.map fun p => (p.1, a.eval p.2))).run P w = .ok (.slice (some ⟨w.heap.size, 0, none⟩) m m) (w.alloc (.cells C el)) := by
              simp only [Instr.buildSlice, Sem.run_bind, run_underlying hu, Result.andThen_ok, run_sizeOf' hs]
              rw [if_neg (by omega)]
              by_cases hk : m * s = 0
              · have hn : m = 0 := by
                  rcases Nat.mul_eq_zero.1 hk with h | h
                  · exact h
                  · exact absurd h hs0
                subst hn
                have hr0 : ∀ f : Nat → Value, Array.map f (Array.range 0) = #[] := fun f => Array.eq_empty_of_size_eq_zero (by simp)
                simp only [Nat.zero_mul, hr0, Array.toList_map] at hC
                simp [hC, hr0, newRow]
              · rw [if_neg hk]
                simp only [Array.toList_map] at hC
                simp [hzv, hC, newRow]
            simp only [execOp, ho, Sem.run_bind]
            rw [hrun]; rfl
        · cases hr
      · cases hr
    · cases hr
  · cases hr
theorem copyS_sound (HR : HRel g h w) {t ty : TypeId} {y : AV} {v : Value} (hy : VRel g h.length y v) {mk : Nat → AV} {ao : AO} (hr : copyS P h t y = some (mk, ao)) (hao : ao ≠ .dead) :
    ∃ (e : TypeId) (z : List SV) (C : Array Value) (val : Nat → Value), ao = .rw e z ∧ (∀ (g : G) (n l b : Nat), l < n → g.blk l = b → g.off l = 0 → g.siz l = C.size → VRel g n (mk l) (val b)) ∧
      (Builtin.append_ #[t, t] ty #[.slice none 0 0, v]).run P w = .ok (val w.heap.size) (w.drew.alloc (.cells C e)) ∧
      z.length ≤ C.size ∧ ∀ (i : Nat) (x : SV), z[i]? = some x → ∃ v : Value, C[i]? = some v ∧ SRel g h.length x v := by
  unfold copyS at hr
  split at hr
  · rename_i e hu
    split at hr
    · rename_i s b z hs hb hz
      simp only [Option.bind_eq_some_iff] at hr
      obtain ⟨new, hnew, hr⟩ := hr
      split at hr
      · cases hr
      · rename_i hcond
        simp only [not_or, Decidable.not_not] at hcond
        obtain ⟨hs0, hb0, hmod, hzl, hbd⟩ := hcond
        split at hr
        · exact absurd (Prod.mk.inj (Option.some.inj hr)).2.symm hao
        rename_i hn
        obtain ⟨rfl, rfl⟩ := Prod.mk.inj (Option.some.inj hr)
        obtain ⟨i, zv, hi, hi1, hi2, hi3, hi4⟩ := szT_size hs hb hz
        have hzc : zv.cells.size = s := by have := constL_length hi4; simp at this; omega
        rcases sliceCells_rel (P := P) HR hy hnew with ⟨_, _, rfl⟩ | ⟨a, n, c, s', vs, rfl, hs', hvl, hvr, hcell⟩
        · exact absurd rfl hn
        · obtain rfl : s = s' := by rw [hs] at hs'; exact Option.some.inj hs'
          have hl0 := SRelL.length hvr
          have hdiv : new.length / s = n := by rw [hl0, hvl]; exact Nat.mul_div_cancel _ (by omega)
          rw [hdiv] at hbd ⊢
          have hnpos : 0 < n := by
            rcases Nat.eq_zero_or_pos n with h0 | h0
            · subst h0
              rw [Nat.zero_mul] at hvl
              exact absurd (List.eq_nil_of_length_eq_zero (hl0.trans hvl)) hn
            · exact h0
          have hn47 : n ≤ 140737488355328 := Nat.le_trans (Nat.le_mul_of_pos_right n (Nat.pos_of_ne_zero hb0)) hbd
          have hrun := run_append_nil (P := P) w t ty e i zv hu hi hi3 a n c vs (by rw [hi1]; exact hvl) hcell hnpos (by omega) (by rw [hi2]; omega)
          have hcap : n ≤ grownCap w n 0 e := grownCap_ge w n 0 e
          have hsize : (vs.toArray ++ Builtin.zeroCells zv.cells (grownCap w n 0 e - n)).size = grownCap w n 0 e * s := by
            rw [Array.size_append, size_zeroCells, hzc, List.size_toArray, hvl, ← Nat.add_mul]; congr 1; omega
          refine ⟨e, new, vs.toArray ++ Builtin.zeroCells zv.cells (grownCap w n 0 e - n), fun b => .slice (some ⟨b, 0, none⟩) n (grownCap w n 0 e), rfl, fun g' n' l b h1 h2 h3 h4 => ?_, hrun,
            by rw [hsize, hl0, hvl]; exact Nat.mul_le_mul_right _ hcap, fun j q hq => ?_⟩
          · simp only [VRel, CRel, SRel]
            refine ⟨h1, grownCap w n 0 e, 0, none, hcap, ?_, ?_, ?_⟩
            · rw [h4, hsize, Nat.zero_add]
            · right; exact ⟨by omega, rfl⟩
            · simp [h2]
          · obtain ⟨p, p1, p2⟩ := SRelL.get hvr j q hq
            refine ⟨p, ?_, p2⟩
            rw [Array.getElem?_append_left (by have := (List.getElem?_eq_some_iff.1 p1).1; simpa using this)]
            simpa using p1
    · cases hr
  · cases hr
/-- A copy of nothing. -/
theorem copyS_nil (HR : HRel g h w) {t ty : TypeId} {y : AV} {v : Value} (hy : VRel g h.length y v) {mk : Nat → AV} (hr : copyS P h t y = some (mk, .dead)) :
    (∀ l, mk l = .v (.sc .nils)) ∧ (Builtin.append_ #[t, t] ty #[.slice none 0 0, v]).run P w = .ok (.slice none 0 0) w := by
  unfold copyS at hr
  split at hr
  · rename_i e hu
    split at hr
    · rename_i s b z hs hb hz
      simp only [Option.bind_eq_some_iff] at hr
      obtain ⟨new, hnew, hr⟩ := hr
      split at hr
      · cases hr
      · rename_i hcond
        simp only [not_or, Decidable.not_not] at hcond
        obtain ⟨hs0, hb0, hmod, hzl, hbd⟩ := hcond
        split at hr
        · rename_i hn
          subst hn
          obtain ⟨rfl, _⟩ := Prod.mk.inj (Option.some.inj hr)
          refine ⟨fun _ => rfl, ?_⟩
          obtain ⟨i, zv, hi, hi1, hi2, hi3, hi4⟩ := szT_size hs hb hz
          rcases sliceCells_rel (P := P) HR hy hnew with ⟨_, rfl, _⟩ | ⟨a, n, c, s', vs, rfl, hs', hvl, hvr, _⟩
          · simp [Builtin.append_, run_underlying hu, run_sizeOf' hs, Builtin.lenOf, Builtin.firstCells]
          · have hl0 := SRelL.length hvr
            simp only [List.length_nil] at hl0
            obtain rfl : s = s' := by rw [hs] at hs'; exact Option.some.inj hs'
            have hn0 : n = 0 := by
              have : n * s = 0 := by omega
              rcases Nat.mul_eq_zero.1 this with h | h
              · exact h
              · exact absurd h hs0
            subst hn0
            simp [Builtin.append_, run_underlying hu, run_sizeOf' hs, Builtin.lenOf, Builtin.firstCells, loadCells, loadCellsFrom]
        · rename_i hn
          have := (Prod.mk.inj (Option.some.inj hr)).2
          cases this
    · cases hr
  · cases hr
/-- What a new block, or a copy, does. -/
theorem newA_sound {o : Oper} {e : List AV} {a : Act} (HR : HRel g h w) (hE : ERel g h.length e a.tmps) {mk : Nat → AV} {ao : AO} (hr : newA P o e h = some (mk, ao)) (hao : ao ≠ .dead) :
    ∃ (t : TypeId) (z : List SV) (C : Array Value) (val : Nat → Value) (w1 : World), (w1 = w ∨ w1 = w.drew) ∧ ao = .rw t z ∧ (∀ (g : G) (n l b : Nat), l < n → g.blk l = b → g.off l = 0 → g.siz l = C.size → VRel g n (mk l) (val b)) ∧
      (execOp a.eval o).run P w = .ok (.value (val w.heap.size)) (w1.alloc (.cells C t)) ∧
      z.length ≤ C.size ∧ ∀ (i : Nat) (x : SV), z[i]? = some x → ∃ v : Value, C[i]? = some v ∧ SRel g h.length x v := by
  unfold newA at hr
  split at hr
  · rename_i p hp
    obtain rfl := Option.some.inj hr
    obtain ⟨t, z, C, val, h1, h2, h3, h4, h5⟩ := allocA_sound hE hp
    exact ⟨t, z, C, val, w, .inl rfl, h1, h2, h3 w, h4, h5⟩
  · unfold copyA at hr
    split at hr
    · rename_i args ts ho
      split at hr
      · rename_i x y t t' hxs hts
        split at hr
        · rename_i htt
          subst htt
          split at hr
          · rename_i hx
            have ev := fun x => aeval_rel hE x
            have hx0 := ev x
            rw [hx] at hx0
            simp only [VRel, CRel, SRel] at hx0
            obtain ⟨e', z, C, val, h1, h2, h3, h4, h5⟩ := copyS_sound (P := P) (ty := o.type) HR (ev y) hr hao
            have e1 : args = #[x, y] := by rw [← Array.toArray_toList (xs := args), hxs]
            have e2 : ts = #[t, t] := by rw [← Array.toArray_toList (xs := ts), hts]
            subst e1; subst e2
            refine ⟨e', z, C, val, w.drew, .inr rfl, h1, h2, ?_, h4, h5⟩
            simp only [execOp, ho, resolve, invoke, builtin, Sem.run_bind, Sem.run_pure, Result.andThen_ok]
            simp [hx0, h3]
          · cases hr
        · cases hr
      · cases hr
    · cases hr
/-- A copy of nothing, as an operation. -/
theorem newA_nil {o : Oper} {e : List AV} {a : Act} (HR : HRel g h w) (hE : ERel g h.length e a.tmps) {mk : Nat → AV} (hr : newA P o e h = some (mk, .dead)) :
    (∀ l, mk l = .v (.sc .nils)) ∧ (execOp a.eval o).run P w = .ok (.value (.slice none 0 0)) w := by
  unfold newA at hr
  split at hr
  · rename_i p hp
    obtain rfl := Option.some.inj hr
    obtain ⟨t, z, C, val, h1, _⟩ := allocA_sound hE hp
    cases h1
  · unfold copyA at hr
    split at hr
    · rename_i args ts ho
      split at hr
      · rename_i x y t t' hxs hts
        split at hr
        · rename_i htt
          subst htt
          split at hr
          · rename_i hx
            have ev := fun x => aeval_rel hE x
            have hx0 := ev x
            rw [hx] at hx0
            simp only [VRel, CRel, SRel] at hx0
            obtain ⟨h1, h2⟩ := copyS_nil (P := P) (ty := o.type) HR (ev y) hr
            have e1 : args = #[x, y] := by rw [← Array.toArray_toList (xs := args), hxs]
            have e2 : ts = #[t, t] := by rw [← Array.toArray_toList (xs := ts), hts]
            subst e1; subst e2
            refine ⟨h1, ?_⟩
            simp only [execOp, ho, resolve, invoke, builtin, Sem.run_bind, Sem.run_pure, Result.andThen_ok]
            simp [hx0, h2]
          · cases hr
        · cases hr
      · cases hr
    · cases hr
/-- Ghosts of reserved blocks, as one likes. -/
def gU (g : G) (U : Nat → Bool) (u : Nat → Nat × Nat × Nat) : G := ⟨fun i => if U i then (u i).1 else g.blk i, fun i => if U i then (u i).2.1 else g.off i, fun i => if U i then (u i).2.2 else g.siz i⟩
/-- Where a run stands, whatever becomes of the reserved blocks. -/
def FullU (W : Nat → Prop) (w0 : World) (lock n0 : Nat) (g0 : G) (U : Nat → Bool) (e : List AV) (h : List AO) (a : Act) (w : World) : Prop :=
  ∃ g, (∀ u, HSt W w0 lock (gU g U u) h w ∧ GExt n0 g0 (gU g U u) ∧ ERel (gU g U u) h.length e a.tmps) ∧ n0 ≤ h.length ∧ a.defers = []
theorem FullU.full {n0 : Nat} {g0 : G} {U : Nat → Bool} {e : List AV} {a : Act} (H : FullU W w0 lock n0 g0 U e h a w) : Full W w0 lock n0 g0 e h a w := by
  obtain ⟨g, hu, h1, h2⟩ := H
  obtain ⟨k1, k2, k3⟩ := hu fun _ => (0, 0, 0)
  exact ⟨_, k1, k2, h1, k3, h2⟩
theorem FullU.mono {n0 : Nat} {g0 : G} {U U' : Nat → Bool} {e : List AV} {a : Act} (hU : ∀ i, U' i = true → U i = true) (H : FullU W w0 lock n0 g0 U e h a w) : FullU W w0 lock n0 g0 U' e h a w := by
  obtain ⟨g, hu, h1, h2⟩ := H
  refine ⟨g, fun u => ?_, h1, h2⟩
  have : gU g U' u = gU g U fun i => if U' i then u i else (g.blk i, g.off i, g.siz i) := by
    unfold gU
    congr 1 <;> funext i <;> by_cases h : U' i = true <;> simp [h, hU] <;> split <;> rfl
  rw [this]; exact hu _
variable {E : Ext} {base n0 : Nat} {g0 : G} {ops : Array Oper} {wc : List Nat} {U : Nat → Bool}
/-- An operation that turns neither heap nor world. -/
theorem FullU.put {e : List AV} {a : Act} (H : FullU W w0 lock n0 g0 U e h a w) (d : Option Tmp) {r : AV} {v : Value} (hv : ∀ g, ERel g h.length e a.tmps → HRel g h w → VRel g h.length r v) : FullU W w0 lock n0 g0 U (setD e d r) h (a.put d v) w := by
  obtain ⟨g, hu, h1, h2⟩ := H
  exact ⟨g, fun u => ⟨(hu u).1, (hu u).2.1, put_rel (hu u).2.2 _ (hv _ (hu u).2.2 (hu u).1.rel)⟩, h1, put_defers h2 _ _⟩
theorem opM_sound {o : Oper} {e : List AV} {a : Act} (H : FullU W w0 lock n0 g0 U e h a w) {r : AV} {h0 : List AO} (hh : ∀ g, HRel g h w → HRel g h0 w) (hl : h0.length = h.length) (hr : pureA P o e h0 = some r)
    {next : Act → World → Prop} {Q : Exit → Act → World → Prop} (hn : ∀ a', FullU W w0 lock n0 g0 U (setD e o.dst r) h a' w → next a' w) : o.wp P a w next Q := by
  have H' := H
  obtain ⟨g, hu, h1, h2⟩ := H'
  obtain ⟨k1, k2, k3⟩ := hu fun _ => (0, 0, 0)
  obtain ⟨v, r1, r2⟩ := pure_sound (hh _ k1.rel) (by rw [hl]; exact k3) hr
  unfold Oper.wp
  rw [r1 w (Keeps.refl _ _)]
  refine hn _ (H.put _ fun g' hE hR => ?_)
  obtain ⟨v', q1, q2⟩ := pure_sound (hh _ hR) (by rw [hl]; exact hE) hr
  have := (r1 w (Keeps.refl _ _)).symm.trans (q1 w (Keeps.refl _ _))
  simp only [Result.ok.injEq, Next.value.injEq, and_true] at this
  rw [this, ← hl]; exact q2
theorem HRel.mask (o : Oper) : ∀ (al : List Nat) (k : Nat) {h : List AO}, HRel g h w → HRel g (maskH o base k al h) w
  | [], k, h, H => H
  | i :: al, k, h, H => by
    simp only [maskH]
    split
    · exact HRel.mask o al _ H
    · exact (HRel.mask o al _ H).kill _
theorem opA_sound {o : Oper} {e : List AV} {a : Act} {l : Nat} (hUl : U l = true) (hd : h[l]? = some .dead) (hn0 : n0 ≤ l) (H : FullU W w0 lock n0 g0 U e h a w) {h0 : List AO} (hh : ∀ g, HRel g h w → HRel g h0 w) (hl0 : h0.length = h.length) {mk : Nat → AV} {ao : AO} (hr : newA P o e h0 = some (mk, ao))
    {next : Act → World → Prop} {Q : Exit → Act → World → Prop} (hn : ∀ a' w', FullU W w0 lock n0 g0 (fun i => U i && i != l) (setD e o.dst (mk l)) (h.set l ao) a' w' → next a' w') : o.wp P a w next Q := by
  by_cases hao : ao = .dead
  · subst hao
    have hs : h.set l .dead = h := by
      apply List.ext_getElem?
      intro i
      rw [List.getElem?_set]
      split
      · rename_i q; subst q; rw [if_pos (List.getElem?_eq_some_iff.1 hd).1, hd]
      · rfl
    rw [hs] at hn
    have H' := H
    obtain ⟨g, hu, h1, h2⟩ := H'
    obtain ⟨j1, j2, j3⟩ := hu fun _ => (0, 0, 0)
    obtain ⟨hmk, r1⟩ := newA_nil (hh _ j1.rel) (by rw [hl0]; exact j3) hr
    unfold Oper.wp
    rw [r1]
    rw [hmk l] at hn
    exact hn _ _ ((H.mono fun i hi => by simp at hi; exact hi.1).put _ fun _ _ _ => by simp [VRel, CRel, SRel])
  obtain ⟨g, hu, h1, h2⟩ := H
  have hlt : l < h.length := (List.getElem?_eq_some_iff.1 hd).1
  obtain ⟨j1, j2, j3⟩ := hu fun _ => (0, 0, 0)
  obtain ⟨t, z, C, val, w1, hw1, rfl, _, r1, _, _⟩ := newA_sound (hh _ j1.rel) (by rw [hl0]; exact j3) hr hao
  have hws : w1.heap.size = w.heap.size := by rcases hw1 with rfl | rfl <;> rfl
  unfold Oper.wp
  rw [r1]
  refine hn _ _ ⟨g.upd l w.heap.size 0 C.size, fun u => ?_, by simpa using h1, put_defers h2 _ _⟩
  have hg : gU (g.upd l w.heap.size 0 C.size) (fun i => U i && i != l) u = gU g U fun i => if i = l then (w.heap.size, 0, C.size) else u i := by
    unfold gU G.upd
    congr 1 <;> funext i <;> by_cases h : i = l <;> simp [h, hUl]
  rw [hg]
  obtain ⟨k1, k2, k3⟩ := hu fun i => if i = l then (w.heap.size, 0, C.size) else u i
  obtain ⟨t', z', C', val', w1', hw1', e1, hmk, r2, e2, e3⟩ := newA_sound (hh _ k1.rel) (by rw [hl0]; exact k3) hr hao
  obtain ⟨rfl, rfl⟩ : t = t' ∧ z = z' := by cases e1; exact ⟨rfl, rfl⟩
  have hws' : w1'.heap.size = w.heap.size := by rcases hw1' with rfl | rfl <;> rfl
  have hr12 := r1.symm.trans r2
  simp only [Result.ok.injEq, Next.value.injEq] at hr12
  have hC : C = C' := by
    have h3 := congrArg (fun x : World => x.heap[w.heap.size]?) hr12.2
    have h4 : ∀ (w1 : World) (C : Array Value), w1.heap.size = w.heap.size → (w1.alloc (.cells C t)).heap[w.heap.size]? = some (.cells C t (0, 0)) := fun w1 C hs => by
      show (w1.heap.push _)[w.heap.size]? = _
      rw [← hs]
      simp
    simp only [h4 _ _ hws, h4 _ _ hws'] at h3
    simpa using h3
  subst hC
  have HB : HSt W w0 lock (gU g U fun i => if i = l then (w.heap.size, 0, C.size) else u i) (h.set l (.rw t z)) (w1.alloc (.cells C t)) := by
    have hz3 := hl0 ▸ e3
    rcases hw1 with rfl | rfl
    · exact k1.born hd t z C (by simp [gU, hUl]) (by simp [gU, hUl]) (by simp [gU, hUl]) e2 hz3
    · exact k1.drew.born hd t z C (by simp [gU, hUl, hws]) (by simp [gU, hUl]) (by simp [gU, hUl]) e2 hz3
  refine ⟨HB, k2, put_rel (by rw [List.length_set]; exact k3) _ ?_⟩
  rw [hr12.1, List.length_set]
  exact hmk _ _ _ _ hlt (by simp [gU, hUl]) (by simp [gU, hUl]) (by simp [gU, hUl])
/-- A quiet operation. -/
theorem opR_sound (hEx : ExtOk P E) {o : Oper} {e : List AV} {a : Act} (H : FullU W w0 lock n0 g0 U e h a w) {r : AV} {h0 : List AO} (hh : ∀ g, HRel g h w → HRel g h0 w) (hl : h0.length = h.length) (hr : quietA P E o e h0 = some r)
    {next : Act → World → Prop} {Q : Exit → Act → World → Prop} (hn : ∀ a' w', FullU W w0 lock n0 g0 U (setD e o.dst r) h a' w' → next a' w') : o.wp P a w next Q := by
  unfold quietA at hr
  split at hr
  · rename_i r' hp
    obtain rfl := Option.some.inj hr
    exact opM_sound H hh hl hp fun a' H' => hn a' w H'
  · split at hr
    · rename_i f xs hc
      split at hr
      · rename_i r' h' hF
        split at hr
        · rename_i hcond
          obtain rfl := Option.some.inj hr
          obtain ⟨v, hv⟩ := Option.isSome_iff_exists.1 hcond.2
          have H' := H
          obtain ⟨g, hu, h1, h2⟩ := H'
          obtain ⟨k1, k2, k3⟩ := hu fun _ => (0, 0, 0)
          obtain ⟨vals, hvl, hrun⟩ := callee_rel (P := P) k3 hc
          obtain ⟨c1, c2⟩ := hEx f _ h0 w h0.length xs vals r' h' (hh _ k1.rel) (by rw [hl]; exact hvl) hF
          unfold Oper.wp
          rw [hrun w, c1]
          refine c2.mono ?_
          rintro ex w' ⟨v', g', rfl, q1, q2, q3, q4, q5, q6⟩
          obtain rfl := freeA_rel hv q1
          have hno : ∀ b, ¬ ∃ l, h0.length ≤ l ∧ isRW h0 l ∧ (gU g U fun _ => (0, 0, 0)).blk l = b := fun b ⟨l, a1, a2, _⟩ => absurd (isLive_lt a2.live) (by omega)
          have hlater : Later w w' := ⟨q5.os, q5.tape, q5.output, q5.size, fun k hk _ => q5.block k hk (hno k)⟩
          have H2 : FullU W w0 lock n0 g0 U e h a w' := ⟨g, fun u => ⟨(hu u).1.later hlater, (hu u).2⟩, h1, h2⟩
          exact hn _ _ (H2.put _ fun g' hE hR => freeA_mk hv)
        · cases hr
      · cases hr
    · cases hr
end
end Go.AM
/- The abstract machine: regions whose order is open: the rule. Conditions: none. -/
set_option linter.unusedVariables false
set_option linter.unusedSimpArgs false
namespace Go.AM
section
variable {P : Program} {h : List AO} {w : World} {W : Nat → Prop} {w0 : World} {lock : Nat} {E : Ext} {base n0 : Nat} {al ws : List Nat} {g0 : G} {ops : Array Oper} {cs : List Cls}
/-- What is unborn. -/
def UA (al : List Nat) (base : Nat) (listed : Array Bool) (l : Nat) : Bool :=
  decide (base ≤ l) && match al[l - base]? with | some j => !listed.getD j true | none => false
/-- Who writes waits for all who allocate, over others. -/
def writeB (al : List Nat) (ops : Array Oper) (cs : List Cls) : Bool :=
  (List.range ops.size).all fun j => match ops[j]? with | some o => (isRd (cs.getD j .w) || decide (cs.getD j .w = .a)) || al.all (waitsN ops 8 j) | none => true
theorem FullU.sk {U : Nat → Bool} {e : List AV} {a : Act} (H : FullU W w0 lock n0 g0 U e h a w) (d : Option Tmp) : FullU W w0 lock n0 g0 U (setD e d .sk) h (a.put d undef) w := H.put d fun g _ _ => rfl
theorem FullU.of {U : Nat → Bool} (hU : ∀ i, U i = false) {e : List AV} {a : Act} (H : Full W w0 lock n0 g0 e h a w) : FullU W w0 lock n0 g0 U e h a w := by
  obtain ⟨g, HS, hg, hl, hE, hd⟩ := H
  refine ⟨g, fun u => ?_, hl, hd⟩
  have : gU g U u = g := by unfold gU; simp [hU]
  rw [this]; exact ⟨HS, hg, hE⟩
theorem UA_set {listed : Array Bool} {j : Nat} (hj : j < listed.size) (l : Nat) : UA al base (listed.setIfInBounds j true) l = true → UA al base listed l = true ∧ al[l - base]? ≠ some j := by
  simp only [UA, Bool.and_eq_true, decide_eq_true_eq]
  rintro ⟨h1, h2⟩
  split at h2
  · rename_i i hi
    by_cases hl : j = i
    · subst hl; simp [hj] at h2
    · rw [getD_set_ne true hl] at h2
      exact ⟨⟨h1, h2⟩, by rw [hi]; simpa using Ne.symm hl⟩
  · cases h2
theorem ClosedL.set {ops : Array Oper} {listed : Array Bool} (hcl : ClosedL ops listed) {j : Nat} (hj : j ∈ Region.ready .any ops listed) (hs : listed.size = ops.size) : ClosedL ops (listed.setIfInBounds j true) := by
  obtain ⟨h1, o, ho, h3⟩ := mem_ready.1 hj
  have hj' : j < ops.size := (Array.getElem?_eq_some_iff.1 ho).1
  have hmono : ∀ x, listed.getD x false = true → (listed.setIfInBounds j true).getD x false = true := fun x hx => by
    by_cases hxj : x = j
    · subst hxj
      have : x < listed.size := by omega
      simp [Array.getD_eq_getD_getElem?, this]
    · rw [getD_set_ne false (Ne.symm hxj)]; exact hx
  exact fun k o' ho' hk e' he' hb => hmono _ (by
    by_cases hkj : k = j
    · subst hkj
      rw [ho] at ho'
      obtain rfl := Option.some.inj ho'
      exact h3 e' he' hb
    · rw [getD_set_ne false (Ne.symm hkj)] at hk
      exact hcl k o' ho' hk e' he' hb)
theorem opG_sound (hEx : ExtOk P E) (hwr : writeB al ops cs = true) {listed : Array Bool} (hcl : ClosedL ops listed) (hsz : listed.size = ops.size) {j : Nat} (hj : j ∈ Region.ready .any ops listed) {e e' : List AV} {h h' : List AO} {a : Act} {w : World} (hb : n0 ≤ base)
    (H : FullU W w0 lock n0 g0 (UA al base listed) e h a w) (hr : opG P E lock base al ws ops cs j (e, h) = some (e', h')) {K : Act → World → Prop} {Q : Exit → Act → World → Prop}
    (hK : ∀ a' w', FullU W w0 lock n0 g0 (UA al base (listed.setIfInBounds j true)) e' h' a' w' → K a' w') : wpOp P ops Q j K a w := by
  obtain ⟨hun, o, ho, hrd⟩ := mem_ready.1 hj
  have hjs : j < ops.size := (Array.getElem?_eq_some_iff.1 ho).1
  have hjl : j < listed.size := by omega
  have hmono : ∀ i, UA al base (listed.setIfInBounds j true) i = true → UA al base listed i = true := fun i hi => (UA_set hjl i hi).1
  unfold wpOp
  unfold opG at hr
  simp only [ho] at hr ⊢
  have hE : ∃ g, ERel g h.length e a.tmps := by obtain ⟨g, hu, _, _⟩ := H; exact ⟨_, (hu fun _ => (0, 0, 0)).2.2⟩
  obtain ⟨g1, hE⟩ := hE
  cases hw : wantedA ops e o with
  | none => rw [hw] at hr; cases hr
  | some b =>
    rw [hw] at hr
    cases b with
    | false =>
      obtain ⟨rfl, rfl⟩ := Prod.mk.inj (Option.some.inj hr)
      rw [if_neg (by rw [wanted_rel hE hw]; simp)]
      exact hK _ _ ((H.mono hmono).sk _)
    | true =>
      rw [if_pos (wanted_rel hE hw)]
      left
      obtain ⟨⟨r, h1⟩, hact, he⟩ := Option.map_eq_some_iff.1 hr
      obtain ⟨rfl, rfl⟩ := Prod.mk.inj he
      simp only at hK ⊢
      have hwrite : isRd (cs.getD j .w) = false → cs.getD j .w ≠ .a → stepA P E lock o e h = some (r, h1) → o.wp P a w K Q := fun hn1 hn2 hact => by
        refine step_sound hEx H.full hact fun a' w' H' => hK _ _ (FullU.of (fun i => ?_) H')
        cases hq : UA al base (listed.setIfInBounds j true) i with
        | false => rfl
        | true =>
          exfalso
          have h1 := hmono i hq
          simp only [UA, Bool.and_eq_true, decide_eq_true_eq] at h1
          obtain ⟨h2, h4⟩ := h1
          split at h4
          · rename_i k hk
            simp only [writeB, List.all_eq_true, List.mem_range] at hwr
            have h5 := hwr j hjs
            simp only [ho, hn1, hn2, decide_false, Bool.false_or, Bool.or_self, List.all_eq_true] at h5
            have h6 := h5 k (List.mem_of_getElem? hk)
            have h8 := waitsN_listed hcl 8 j h6 fun o' ho' e' he' hb => by
              rw [ho] at ho'
              obtain rfl := Option.some.inj ho'
              exact hrd e' he' hb
            rcases Nat.lt_or_ge k listed.size with hlt | hge
            · simp only [Array.getD_eq_getD_getElem?, Array.getElem?_eq_getElem hlt, Option.getD_some] at h8 h4
              rw [h8] at h4; cases h4
            · simp [Array.getD_eq_getD_getElem?, Array.getElem?_eq_none hge] at h4
          · cases h4
      cases hc : cs.getD j .w with
      | m =>
        simp only [actG, hc, rdG] at hact
        obtain ⟨v, hv, he⟩ := Option.map_eq_some_iff.1 hact
        obtain ⟨rfl, rfl⟩ := Prod.mk.inj he
        split at hv
        · exact opM_sound H (fun g h => h) rfl hv fun a' H' => hK _ _ (H'.mono hmono)
        · cases hv
      | l =>
        simp only [actG, hc, rdG] at hact
        obtain ⟨v, hv, he⟩ := Option.map_eq_some_iff.1 hact
        obtain ⟨rfl, rfl⟩ := Prod.mk.inj he
        exact opM_sound H (fun g h => h) rfl (readA_pure hv) fun a' H' => hK _ _ (H'.mono hmono)
      | r =>
        simp only [actG, hc, rdG] at hact
        obtain ⟨v, hv, he⟩ := Option.map_eq_some_iff.1 hact
        obtain ⟨rfl, rfl⟩ := Prod.mk.inj he
        exact opR_sound hEx H (fun g h => h.mask o _ _) (maskH_len o _ _ _ _) hv fun a' w' H' => hK _ _ (H'.mono hmono)
      | a =>
        simp only [actG, hc] at hact
        obtain ⟨p, hp, hact⟩ := Option.bind_eq_some_iff.1 hact
        split at hact
        · rename_i hdead
          obtain ⟨rfl, rfl⟩ := Prod.mk.inj (Option.some.inj hact)
          have hd : h[base + al.idxOf j]? = some .dead := by have h2 := hdead.2; unfold isDead at h2; split at h2 <;> first | assumption | cases h2
          have hg := idx_get hdead.1
          refine opA_sound (l := base + al.idxOf j) (mk := p.1) (ao := p.2) ?_ hd (by omega) H (fun g h => h.mask o _ _) (maskH_len o _ _ _ _) hp fun a' w' H' => hK _ _ (H'.mono fun i hi => ?_)
          · have : base + al.idxOf j - base = al.idxOf j := by omega
            simp [UA, this, hg, hun]
          · obtain ⟨h1, h2⟩ := UA_set hjl i hi
            simp only [Bool.and_eq_true, bne_iff_ne]
            refine ⟨h1, ?_⟩
            rintro rfl
            have : base + al.idxOf j - base = al.idxOf j := by omega
            rw [this] at h2; exact h2 hg
        · cases hact
      | x =>
        simp only [actG, hc] at hact
        obtain ⟨p, hp, hact⟩ := Option.bind_eq_some_iff.1 hact
        split at hact
        · obtain rfl := Option.some.inj hact
          exact hwrite (by rw [hc]; rfl) (by rw [hc]; decide) hp
        · cases hact
      | w =>
        simp only [actG, hc] at hact
        exact hwrite (by rw [hc]; rfl) (by rw [hc]; decide) hact
theorem anyG_sound (hEx : ExtOk P E) (hwr : writeB al ops cs = true) (hb : n0 ≤ base) {z : List AV × List AO} {Q : Exit → Act → World → Prop} (hQ : ∀ a w, Full W w0 lock n0 g0 z.1 z.2 a w → Q .normal a w) :
    ∀ (n : Nat) (listed : Array Bool) (s : List AV × List AO) (a : Act) (w : World), listed.size = ops.size → ClosedL ops listed → FullU W w0 lock n0 g0 (UA al base listed) s.1 s.2 a w → anyG P E lock base al ws ops cs z n listed s → wpAny P .any ops Q n listed a w
  | 0, listed, s, a, w, hs, hcl, H, hz => ⟨hz.1, hQ _ _ (by obtain ⟨_, rfl⟩ := hz; exact H.full)⟩
  | n + 1, listed, s, a, w, hs, hcl, H, hz => ⟨fun he => hQ _ _ (by obtain rfl := hz.1 he; exact H.full), fun j hj => by
      obtain ⟨s', h1, h2⟩ := hz.2 j hj
      exact opG_sound hEx hwr hcl hs hj hb H h1 fun a' w' H' => anyG_sound hEx hwr hb hQ n _ s' a' w' (by simp [hs]) (hcl.set hj hs) H' h2⟩
end
end Go.AM
