/- The abstract machine: regions whose order is open. Conditions: none. -/
import Derived.Test.YtgcgbcdgbfeaaaaAmSound
set_option linter.unusedVariables false
set_option linter.unusedSimpArgs false
namespace Go.AM
/-! An operation looks at its operands alone. -/
section
variable {P : Program} {o : Oper} {e e' : List AV} {h : List AO} {lk : Nat}
theorem map_congr' {α β : Type} {f g : α → β} {l : List α} (hx : ∀ x ∈ l, f x = g x) : l.map f = l.map g := List.map_congr_left hx
theorem calleeA_congr (hx : ∀ x ∈ o.op.operands, aeval e x = aeval e' x) : calleeA o e = calleeA o e' := by
  unfold calleeA
  split
  · rename_i f args ts ho
    rw [ho] at hx
    have h1 : aeval e f = aeval e' f := hx f (by simp [Op.operands, Call.operands])
    have h2 : args.toList.map (aeval e) = args.toList.map (aeval e') := map_congr' fun x hm => hx x (by simp [Op.operands, Call.operands]; right; exact Array.mem_toList_iff.1 hm)
    rw [h1, h2]
  · rfl
theorem builtin_args {b : Builtin} {args : Array Operand} {ts : Array TypeId} (ho : o.op = .call { callee := .builtin b, args, argTypes := ts }) (hx : ∀ x ∈ o.op.operands, aeval e x = aeval e' x) :
    ∀ x ∈ args.toList, aeval e x = aeval e' x := fun x hm => hx x (by rw [ho]; simp [Op.operands, Call.operands]; exact Array.mem_toList_iff.1 hm)
theorem pureA_congr (hx : ∀ x ∈ o.op.operands, aeval e x = aeval e' x) : pureA P o e h = pureA P o e' h := by
  unfold pureA
  split
  case h_14 t x lo hi mx ho =>
    rw [ho] at hx
    have hm : ∀ y : Option Operand, (∀ z ∈ y.toArray, aeval e z = aeval e' z) → y.map (aeval e) = y.map (aeval e') := fun y hy => by
      cases y with
      | none => rfl
      | some z => simp only [Option.map_some]; rw [hy z (by simp)]
    rw [hx x (by simp [Op.operands]), hm lo fun z hz => hx z (by simp only [Op.operands, Array.mem_append]; exact .inl (.inl (.inr hz))), hm hi fun z hz => hx z (by simp only [Op.operands, Array.mem_append]; exact .inl (.inr hz)), hm mx fun z hz => hx z (by simp only [Op.operands, Array.mem_append]; exact .inr hz)]
  case h_15 t ps ho =>
    rw [ho] at hx
    rw [map_congr' (f := fun p : Nat × Operand => (p.1, aeval e p.2)) (g := fun p => (p.1, aeval e' p.2)) (l := ps.toList) fun p hp => by
      rw [hx p.2 (by simp only [Op.operands, List.mem_toArray, List.mem_map]; exact ⟨p, hp, rfl⟩)]]
  case h_16 f a c ho =>
    rw [ho] at hx
    have h1 : a.toList.map (aeval e) = a.toList.map (aeval e') := map_congr' fun x hm => hx x (by simp only [Op.operands, Array.mem_append]; exact .inl (Array.mem_toList_iff.1 hm))
    have h2 : c.toList.map (aeval e) = c.toList.map (aeval e') := map_congr' fun x hm => hx x (by simp only [Op.operands, Array.mem_append]; exact .inr (Array.mem_toList_iff.1 hm))
    rw [h1, h2]
  case h_17 args ts ho =>
    have hb := builtin_args ho hx
    split
    · rename_i hl _; rw [hl] at hb; rw [hb _ (by simp)]
    · rfl
  case h_18 args ts ho =>
    have hb := builtin_args ho hx
    split
    · rename_i hl; rw [hl] at hb; rw [hb _ (by simp), hb _ (by simp)]
    · rfl
  case h_19 args ts ho =>
    have hb := builtin_args ho hx
    split
    · rename_i hl; rw [hl] at hb; rw [hb _ (by simp), hb _ (by simp)]
    · rfl
  all_goals first
    | rfl
    | (rename_i ho; rw [ho] at hx; simp only [Op.operands, List.mem_toArray, List.mem_cons, List.not_mem_nil, or_false, forall_eq_or_imp, forall_eq] at hx; simp only [hx])
theorem effA_congr (hx : ∀ x ∈ o.op.operands, aeval e x = aeval e' x) : effA P o e lk h = effA P o e' lk h := by
  unfold effA
  split
  case h_5 t n ps ho =>
    rw [ho] at hx
    rw [map_congr' (f := fun p : Nat × Operand => (p.1, aeval e p.2)) (g := fun p => (p.1, aeval e' p.2)) (l := ps.toList) fun p hp => by
      rw [hx p.2 (by simp only [Op.operands, List.mem_toArray, List.mem_map]; exact ⟨p, hp, rfl⟩)]]
  case h_6 args ts ho =>
    have hb := builtin_args ho hx
    split
    · rename_i hl _; rw [hl] at hb; rw [hb _ (by simp), hb _ (by simp)]
    · rfl
  case h_8 t x lo hi mx ho =>
    rw [ho] at hx
    have hm : ∀ y : Option Operand, (∀ z ∈ y.toArray, aeval e z = aeval e' z) → y.map (aeval e) = y.map (aeval e') := fun y hy => by
      cases y with
      | none => rfl
      | some z => simp only [Option.map_some]; rw [hy z (by simp)]
    rw [hx x (by simp [Op.operands]), hm lo fun z hz => hx z (by simp only [Op.operands, Array.mem_append]; exact .inl (.inl (.inr hz))), hm hi fun z hz => hx z (by simp only [Op.operands, Array.mem_append]; exact .inl (.inr hz)), hm mx fun z hz => hx z (by simp only [Op.operands, Array.mem_append]; exact .inr hz)]
  case h_9 args ts ho =>
    have hb := builtin_args ho hx
    split
    · rename_i hl _; rw [hl] at hb; rw [hb _ (by simp)]
    · rfl
  case h_11 args ts ho =>
    have hb := builtin_args ho hx
    split
    · rename_i hl _; rw [hl] at hb; rw [hb _ (by simp), hb _ (by simp)]
    · rfl
  all_goals first
    | rfl
    | (rename_i ho; rw [ho] at hx; simp only [Op.operands, List.mem_toArray, List.mem_cons, List.not_mem_nil, or_false, forall_eq_or_imp, forall_eq] at hx; simp only [hx])
theorem stepA_congr {E : Ext} (hx : ∀ x ∈ o.op.operands, aeval e x = aeval e' x) : stepA P E lk o e h = stepA P E lk o e' h := by
  unfold stepA; rw [pureA_congr hx, calleeA_congr hx, effA_congr hx]
theorem quietA_congr {E : Ext} (hx : ∀ x ∈ o.op.operands, aeval e x = aeval e' x) : quietA P E o e h = quietA P E o e' h := by
  unfold quietA; rw [pureA_congr hx, calleeA_congr hx]
theorem aeval_setD {d : Option Tmp} {v : AV} {x : Operand} (hd : ∀ t, d = some t → x ≠ .tmp t) : aeval (setD e d v) x = aeval e x := by
  cases d with
  | none => rfl
  | some t =>
    cases x with
    | tmp u =>
      have : t ≠ u := fun q => hd t rfl (by rw [q])
      simp only [aeval, setD, List.getD_eq_getElem?_getD]
      rw [List.getElem?_set_ne this]
    | const _ => rfl
    | func _ => rfl
    | global _ => rfl
theorem looks_operands {ops : Array Oper} {d : Option Tmp} {v : AV} (hd : ∀ t, d = some t → t ∉ o.looksAt ops) : ∀ x ∈ o.op.operands, aeval (setD e d v) x = aeval e x := fun x hx =>
  aeval_setD fun t ht hxt => hd t ht (by subst hxt; exact List.mem_append_left _ (List.mem_filterMap.2 ⟨.tmp t, by simpa using hx, rfl⟩))
theorem wantedA_setD {ops : Array Oper} {d : Option Tmp} {v : AV} (hd : ∀ t, d = some t → t ∉ o.looksAt ops) : wantedA ops (setD e d v) o = wantedA ops e o := by
  unfold wantedA
  cases hg : o.guard with
  | none => rfl
  | some gw =>
    obtain ⟨g, want⟩ := gw
    simp only
    cases ht : (ops[g]?).bind (·.dst) with
    | none => rfl
    | some t =>
      simp only
      cases d with
      | none => rfl
      | some u =>
        have hne : u ≠ t := fun q => hd u rfl (by subst q; simp [Oper.looksAt, hg, ht])
        simp only [setD]
        rw [List.getElem?_set_ne hne]
theorem setD_comm {d d' : Option Tmp} {v v' : AV} (hd : ∀ t, d = some t → d' ≠ some t) : setD (setD e d v) d' v' = setD (setD e d' v') d v := by
  cases d with
  | none => rfl
  | some t =>
    cases d' with
    | none => rfl
    | some u =>
      have : t ≠ u := fun q => hd t rfl (by rw [q])
      simp only [setD]
      rw [List.set_comm _ _ this]
end
end Go.AM
