/- The abstract machine: regions whose order is open: all orders come to one end. Conditions: none. -/
import Derived.Test.YtgcgbcdgbfeaaaaAmDraw
set_option linter.unusedVariables false
set_option linter.unusedSimpArgs false
namespace Go.AM
/-- An operation on slots alone. -/
def memfree (o : Oper) : Bool :=
  match o.op with
  | .move _ | .assign _ | .pick _ _ _ | .nilCheck _ | .binOp _ _ _ _ _ | .unOp _ _ _ | .convert _ _ _ | .fieldAddr _ _ _ | .field _ _ _ | .indexAddr _ _ _ | .index _ _ _ | .extract _ _ | .slice _ _ _ _ _ | .build _ _ => true
  | .makeFunc (.func _) _ _ => true
  | .call { callee := .builtin .min, .. } => true
  | .call { callee := .builtin .max, .. } => true
  | _ => false
theorem pureA_free {P : Program} {o : Oper} (hf : memfree o = true) (e : List AV) (h h' : List AO) : pureA P o e h = pureA P o e h' := by
  unfold memfree at hf
  unfold pureA
  split at hf <;> first | (cases hf; done) | (rename_i ho; simp only [ho])
/-- A new block, and where it lies. -/
def allocA (P : Program) (o : Oper) (e : List AV) : Option ((Nat → AV) × AO) :=
  match o.op with
  | .alloc t => (zeroL P t).map fun z => (fun l => .v (.sc (.ptr l 0)), .rw t z)
  | .box t x => match aeval e x with | .v c => some (fun l => .v (.sc (.ptr l 0)), .rw t c.cells) | _ => none
  | .buildSlice t n parts =>
    match P.underlying t with
    | some (.slice el) =>
      match szT P el, zeroL P el with
      | some s, some z =>
        if n * s ≤ 16777216 ∧ z.length = s ∧ s ≠ 0 then
          (fillA (fun i => some (i * s, s)) (List.replicate n z).flatten (parts.toList.map fun p => (p.1, aeval e p.2))).map fun cs => (fun l => .v (.sc (.sl l 0 n s)), .rw el cs)
        else none
      | _, _ => none
    | _ => none
  | _ => none
theorem allocA_congr {P : Program} {o : Oper} {e e' : List AV} (hx : ∀ x ∈ o.op.operands, aeval e x = aeval e' x) : allocA P o e = allocA P o e' := by
  unfold allocA
  split
  case h_3 t n ps ho =>
    rw [ho] at hx
    rw [map_congr' (f := fun p : Nat × Operand => (p.1, aeval e p.2)) (g := fun p => (p.1, aeval e' p.2)) (l := ps.toList) fun p hp => by
      rw [hx p.2 (by simp only [Op.operands, List.mem_toArray, List.mem_map]; exact ⟨p, hp, rfl⟩)]]
  all_goals first
    | rfl
    | (rename_i ho; rw [ho] at hx; simp only [Op.operands, List.mem_toArray, List.mem_cons, List.not_mem_nil, or_false, forall_eq_or_imp, forall_eq] at hx; simp only [hx])
/-- On slots alone; a load of an old block; reading, but not the blocks that it does not wait for; a new block; what leaves the old blocks alone, but for those told; anything. -/
inductive Cls where
  | m | l | r | a | x | w
  deriving DecidableEq
/-- Does an operation wait for another one? -/
def waits (o : Oper) (i : Nat) : Bool := o.after.any fun e => Region.binds .any e && e.on == i
/-- Reserved blocks of those that an operation does not wait for are as if they were not there. -/
def maskH (o : Oper) (base : Nat) : Nat → List Nat → List AO → List AO
  | _, [], h => h
  | k, i :: al, h => if waits o i then maskH o base (k + 1) al h else (maskH o base (k + 1) al h).set (base + k) .dead
theorem maskH_len (o : Oper) (base : Nat) : ∀ (al : List Nat) (k : Nat) (h : List AO), (maskH o base k al h).length = h.length
  | [], k, h => rfl
  | i :: al, k, h => by simp only [maskH]; split <;> simp [maskH_len o base al]
theorem maskH_comm (o : Oper) (base : Nat) (x : AO) : ∀ (al : List Nat) (k q : Nat) (h : List AO), q < k → maskH o base k al (h.set (base + q) x) = (maskH o base k al h).set (base + q) x
  | [], k, q, h, _ => rfl
  | i :: al, k, q, h, hq => by
    simp only [maskH]
    split
    · exact maskH_comm o base x al (k + 1) q h (by omega)
    · rw [maskH_comm o base x al (k + 1) q h (by omega), List.set_comm _ _ (by omega)]
theorem maskH_set (o : Oper) (base : Nat) (x : AO) : ∀ (al : List Nat) (k p i : Nat) (h : List AO), al[p]? = some i → waits o i = false → maskH o base k al (h.set (base + (k + p)) x) = maskH o base k al h
  | [], k, p, i, h, hp, _ => by simp at hp
  | j :: al, k, 0, i, h, hp, hw => by
    obtain rfl : j = i := by simpa using hp
    simp only [maskH, hw, Nat.add_zero, Bool.false_eq_true, if_false]
    rw [maskH_comm o base x al (k + 1) k h (by omega), List.set_set]
  | j :: al, k, p + 1, i, h, hp, hw => by
    have ih := maskH_set o base x al (k + 1) p i h (by simpa using hp) hw
    rw [show k + 1 + p = k + (p + 1) by omega] at ih
    simp only [maskH, ih]
theorem idx_get {al : List Nat} {j : Nat} (h : al.idxOf j < al.length) : al[al.idxOf j]? = some j := by
  rw [List.getElem?_eq_getElem h, List.getElem_idxOf]
theorem idx_inj {al : List Nat} {i j : Nat} (hi : al.idxOf i < al.length) (hj : al.idxOf j < al.length) (h : al.idxOf i = al.idxOf j) : i = j := by
  have h1 := idx_get hi
  have h2 := idx_get hj
  rw [h, h2] at h1
  exact (Option.some.inj h1).symm
def isDead (x : Option AO) : Bool := match x with | some .dead => true | _ => false
def NotIn (l : Nat) (ws : List Nat) : Prop := (∀ k, 2 * k ∈ ws → l ≠ k) ∧ ((∃ k, 2 * k + 1 ∈ ws) → 2 * l + 1 ∈ ws)
/-- Old blocks are as they were, but for some (2 k: not block k; any 2 k + 1: of these blocks alone). -/
def LowEq (ws : List Nat) (base : Nat) (h h' : List AO) : Prop := ∀ l, l < base → NotIn l ws → h'[l]? = h[l]?
noncomputable def readA (P : Program) (ws : List Nat) (base : Nat) (o : Oper) (e : List AV) (h : List AO) : Option AV :=
  match o.op with
  | .load t x =>
    match aeval e x with
    | .v (.sc (.ptr l i)) => open Classical in if l < base ∧ NotIn l ws then loadA P h t (.v (.sc (.ptr l i))) else none
    | _ => none
  | .call { callee := .builtin .len, .. } => pureA P o e []
  | _ => none
theorem lenA_any {P : Program} {t : TypeId} {x v : AV} {h : List AO} (hr : lenA P [] t x = some v) : lenA P h t x = some v := by
  unfold lenA at hr ⊢
  split at hr <;> first | exact hr | cases hr | (simp at hr)
theorem readA_pure {P : Program} {ws : List Nat} {base : Nat} {o : Oper} {e : List AV} {h : List AO} {v : AV} (hr : readA P ws base o e h = some v) : pureA P o e h = some v := by
  unfold readA at hr
  split at hr
  · rename_i t x ho
    split at hr
    · rename_i l i hx
      split at hr
      · unfold pureA; simp only [ho, hx]; exact hr
      · cases hr
    · cases hr
  · rename_i args ts ho
    unfold pureA at hr ⊢
    simp only [ho] at hr ⊢
    split at hr
    · exact lenA_any hr
    · cases hr
  · cases hr
theorem readA_low {P : Program} {ws : List Nat} {base : Nat} {o : Oper} {e : List AV} {h h' : List AO} (hl : LowEq ws base h h') : readA P ws base o e h' = readA P ws base o e h := by
  unfold readA
  split
  · rename_i t x ho
    split
    · rename_i l i hx
      split
      · rename_i hc
        unfold loadA cellsAt
        simp only [hl l hc.1 hc.2]
      · rfl
    · rfl
  · rfl
  · rfl
theorem readA_congr {P : Program} {ws : List Nat} {base : Nat} {o : Oper} {e e' : List AV} {h : List AO} (hx : ∀ x ∈ o.op.operands, aeval e x = aeval e' x) : readA P ws base o e h = readA P ws base o e' h := by
  unfold readA
  split
  · rename_i ho; rw [ho] at hx; simp only [Op.operands, List.mem_toArray, List.mem_cons, List.not_mem_nil, or_false, forall_eq_or_imp, forall_eq] at hx; rw [hx]
  · exact pureA_congr hx
  · rfl
theorem LowEq.set {ws : List Nat} {base l : Nat} {h : List AO} {x : AO} (hl : base ≤ l) : LowEq ws base h (h.set l x) := fun i hi _ => List.getElem?_set_ne (by omega)
section
variable (P : Program) (E : Ext) (lk base : Nat) (al ws : List Nat) (ops : Array Oper) (cs : List Cls)
/-- What an operation reads. -/
noncomputable def rdG (c : Cls) (o : Oper) (e : List AV) (h : List AO) : Option AV :=
  match c with
  | .m => if memfree o then pureA P o e h else none
  | .l => readA P ws base o e h
  | .r => quietA P E o e (maskH o base 0 al h)
  | _ => none
/-- What an operation does: its value, the heap behind it. -/
noncomputable def actG (j : Nat) (o : Oper) (e : List AV) (h : List AO) : Option (AV × List AO) :=
  match cs.getD j .w with
  | .a => (allocA P o e).bind fun p => if al.idxOf j < al.length ∧ isDead h[base + al.idxOf j]? = true then some (p.1 (base + al.idxOf j), h.set (base + al.idxOf j) p.2) else none
  | .x => (stepA P E lk o e h).bind fun r => open Classical in if LowEq ws base h r.2 then some r else none
  | .w => stepA P E lk o e h
  | c => (rdG P E base al ws c o e h).map fun v => (v, h)
noncomputable def opG (j : Nat) (s : List AV × List AO) : Option (List AV × List AO) :=
  match ops[j]? with
  | none => some s
  | some o =>
    match wantedA ops s.1 o with
    | some true => (actG P E lk base al ws cs j o s.1 s.2).map fun r => (setD s.1 o.dst r.1, r.2)
    | some false => some (setD s.1 o.dst .sk, s.2)
    | none => none
end
def okPair : Cls → Cls → Bool
  | .m, _ => true
  | _, .m => true
  | .r, .r => true
  | .r, .a => true
  | .a, .r => true
  | .a, .a => true
  | .l, .l => true
  | .l, .r => true
  | .r, .l => true
  | .l, .a => true
  | .a, .l => true
  | .l, .x => true
  | .x, .l => true
  | _, _ => false
def isRd : Cls → Bool
  | .m | .l | .r => true
  | _ => false
section
variable {P : Program} {E : Ext} {lk base : Nat} {al ws : List Nat} {ops : Array Oper} {cs : List Cls}
theorem act_rd {j : Nat} (hc : isRd (cs.getD j .w) = true) (o : Oper) (e : List AV) (h : List AO) : actG P E lk base al ws cs j o e h = (rdG P E base al ws (cs.getD j .w) o e h).map fun v => (v, h) := by
  unfold actG
  split <;> first | rfl | (rename_i hq; rw [hq] at hc; cases hc)
theorem rd_inv {i j : Nat} {oi oj : Oper} {e : List AV} {h h' : List AO} {v : AV} (hok : okPair (cs.getD i .w) (cs.getD j .w) = true) (hr : isRd (cs.getD i .w) = true) (hnr : isRd (cs.getD j .w) = false) (wji : waits oi j = false)
    (ha : actG P E lk base al ws cs j oj e h = some (v, h')) : rdG P E base al ws (cs.getD i .w) oi e h' = rdG P E base al ws (cs.getD i .w) oi e h := by
  cases ci : cs.getD i .w with
  | m => simp only [rdG]; split
         · rename_i hf; exact pureA_free hf e h' h
         · rfl
  | l =>
    rw [ci] at hok
    simp only [rdG]
    refine readA_low ?_
    cases cj : cs.getD j .w with
    | m => rw [cj] at hnr; cases hnr
    | l => rw [cj] at hnr; cases hnr
    | r => rw [cj] at hnr; cases hnr
    | a =>
      simp only [actG, cj] at ha
      obtain ⟨p, hp, ha⟩ := Option.bind_eq_some_iff.1 ha
      split at ha
      · obtain ⟨rfl, rfl⟩ := Prod.mk.inj (Option.some.inj ha)
        exact LowEq.set (by omega)
      · cases ha
    | x =>
      simp only [actG, cj] at ha
      obtain ⟨p, hp, ha⟩ := Option.bind_eq_some_iff.1 ha
      split at ha
      · rename_i hlow
        obtain rfl := Option.some.inj ha
        exact hlow
      · cases ha
    | w => rw [cj] at hok; cases hok
  | r =>
    rw [ci] at hok
    cases cj : cs.getD j .w with
    | a =>
      simp only [actG, cj] at ha
      obtain ⟨p, hp, ha⟩ := Option.bind_eq_some_iff.1 ha
      split at ha
      · rename_i hd
        obtain ⟨rfl, rfl⟩ := Prod.mk.inj (Option.some.inj ha)
        have := maskH_set oi base p.2 al 0 (al.idxOf j) j h (idx_get hd.1) wji
        rw [Nat.zero_add] at this
        simp only [rdG, this]
      · cases ha
    | m => rw [cj] at hnr; cases hnr
    | l => rw [cj] at hnr; cases hnr
    | r => rw [cj] at hnr; cases hnr
    | x => rw [cj] at hok; cases hok
    | w => rw [cj] at hok; cases hok
  | a => rw [ci] at hr; cases hr
  | x => rw [ci] at hr; cases hr
  | w => rw [ci] at hr; cases hr
theorem okPair_comm (c d : Cls) : okPair c d = okPair d c := by cases c <;> cases d <;> rfl
theorem act_swap {i j : Nat} {oi oj : Oper} (hij : i ≠ j) (hok : okPair (cs.getD i .w) (cs.getD j .w) = true) (wij : waits oj i = false) (wji : waits oi j = false)
    {e : List AV} {h h1 h2 : List AO} {v1 v2 : AV} (a1 : actG P E lk base al ws cs i oi e h = some (v1, h1)) (a2 : actG P E lk base al ws cs j oj e h1 = some (v2, h2)) :
    ∃ h', actG P E lk base al ws cs j oj e h = some (v2, h') ∧ actG P E lk base al ws cs i oi e h' = some (v1, h2) := by
  cases ri : isRd (cs.getD i .w) with
  | true =>
    have a1' := a1
    rw [act_rd ri] at a1'
    obtain ⟨v, hv, he⟩ := Option.map_eq_some_iff.1 a1'
    obtain ⟨rfl, rfl⟩ := Prod.mk.inj he
    refine ⟨h2, a2, ?_⟩
    rw [act_rd ri]
    cases rj : isRd (cs.getD j .w) with
    | true =>
      rw [act_rd rj] at a2
      obtain ⟨v', hv', he⟩ := Option.map_eq_some_iff.1 a2
      obtain ⟨rfl, rfl⟩ := Prod.mk.inj he
      rw [hv]; rfl
    | false => rw [rd_inv hok ri rj wji a2, hv]; rfl
  | false =>
    cases rj : isRd (cs.getD j .w) with
    | true =>
      rw [act_rd rj] at a2
      obtain ⟨v', hv', he⟩ := Option.map_eq_some_iff.1 a2
      obtain ⟨rfl, rfl⟩ := Prod.mk.inj he
      rw [rd_inv (by rw [okPair_comm]; exact hok) rj ri wij a1] at hv'
      exact ⟨h, by rw [act_rd rj, hv']; rfl, a1⟩
    | false =>
      have hboth : cs.getD i .w = .a ∧ cs.getD j .w = .a := by
        revert hok ri rj
        cases cs.getD i .w <;> cases cs.getD j .w <;> simp [okPair, isRd]
      obtain ⟨ci, cj⟩ := hboth
      simp only [actG, ci] at a1
      obtain ⟨p, hp, a1⟩ := Option.bind_eq_some_iff.1 a1
      split at a1
      · rename_i hd
        obtain ⟨rfl, rfl⟩ := Prod.mk.inj (Option.some.inj a1)
        simp only [actG, cj] at a2
        obtain ⟨q, hq, a2⟩ := Option.bind_eq_some_iff.1 a2
        by_cases hjl : al.idxOf j < al.length
        · have hne : al.idxOf i ≠ al.idxOf j := fun q => hij (idx_inj hd.1 hjl q)
          rw [List.getElem?_set_ne (by omega)] at a2
          split at a2
          · rename_i hd2
            obtain ⟨rfl, rfl⟩ := Prod.mk.inj (Option.some.inj a2)
            refine ⟨h.set (base + al.idxOf j) q.2, by simp only [actG, cj, hq, Option.bind_some]; rw [if_pos hd2], ?_⟩
            simp only [actG, ci, hp, Option.bind_some]
            rw [List.getElem?_set_ne (by omega), if_pos hd, List.set_comm _ _ (by omega)]
          · cases a2
        · rw [if_neg (fun q => hjl q.1)] at a2; cases a2
      · cases a1
theorem rdG_congr {c : Cls} {o : Oper} {e e' : List AV} {h : List AO} (hx : ∀ x ∈ o.op.operands, aeval e x = aeval e' x) : rdG P E base al ws c o e h = rdG P E base al ws c o e' h := by
  unfold rdG
  split
  · rw [pureA_congr hx]
  · exact readA_congr hx
  · exact quietA_congr hx
  · rfl
theorem actG_congr {j : Nat} {o : Oper} {e e' : List AV} {h : List AO} (hx : ∀ x ∈ o.op.operands, aeval e x = aeval e' x) : actG P E lk base al ws cs j o e h = actG P E lk base al ws cs j o e' h := by
  unfold actG
  split
  · rw [allocA_congr hx]
  · rw [stepA_congr hx]
  · exact stepA_congr hx
  · rw [rdG_congr hx]
/-- Two operations that no order binds, and that may stand in either. -/
def indepB (ops : Array Oper) (cs : List Cls) (i j : Nat) : Bool :=
  match ops[i]?, ops[j]? with
  | some oi, some oj => oi.apart ops oj && okPair (cs.getD i .w) (cs.getD j .w) && !waits oj i && !waits oi j
  | _, _ => true
theorem op_swap {i j : Nat} (hij : i ≠ j) (hin : indepB ops cs i j = true) {s s1 s2 : List AV × List AO} (a1 : opG P E lk base al ws ops cs i s = some s1) (a2 : opG P E lk base al ws ops cs j s1 = some s2) :
    ∃ s', opG P E lk base al ws ops cs j s = some s' ∧ opG P E lk base al ws ops cs i s' = some s2 := by
  unfold opG at a1 a2 ⊢
  cases hi : ops[i]? with
  | none =>
    rw [hi] at a1
    obtain rfl := Option.some.inj a1
    exact ⟨s2, a2, rfl⟩
  | some oi =>
    cases hj : ops[j]? with
    | none =>
      rw [hj] at a2
      obtain rfl := Option.some.inj a2
      exact ⟨s, rfl, by rw [hi] at a1; exact a1⟩
    | some oj =>
      rw [hi] at a1
      rw [hj] at a2
      simp only at a1 a2 ⊢
      simp only [indepB, hi, hj, Bool.and_eq_true, Bool.not_eq_true'] at hin
      obtain ⟨⟨⟨hap, hok⟩, wij⟩, wji⟩ := hin
      obtain ⟨p1, p2, p3⟩ := Oper.apart_spec hap
      have hci : ∀ (e : List AV) v, wantedA ops (setD e oj.dst v) oi = wantedA ops e oi := fun e v => wantedA_setD p3
      have hcj : ∀ (e : List AV) v, wantedA ops (setD e oi.dst v) oj = wantedA ops e oj := fun e v => wantedA_setD p1
      have xi : ∀ (e : List AV) v h, actG P E lk base al ws cs i oi (setD e oj.dst v) h = actG P E lk base al ws cs i oi e h := fun e v h => actG_congr (looks_operands p3)
      have xj : ∀ (e : List AV) v h, actG P E lk base al ws cs j oj (setD e oi.dst v) h = actG P E lk base al ws cs j oj e h := fun e v h => actG_congr (looks_operands p1)
      have li : i < ops.size := (Array.getElem?_eq_some_iff.1 hi).1
      have lj : j < ops.size := (Array.getElem?_eq_some_iff.1 hj).1
      cases wi : wantedA ops s.1 oi with
      | none => rw [wi] at a1; cases a1
      | some bi =>
        cases bi with
        | false =>
          rw [wi] at a1
          obtain rfl := Option.some.inj a1
          simp only [hcj, xj] at a2
          cases wj : wantedA ops s.1 oj with
          | none => rw [wj] at a2; cases a2
          | some bj =>
            cases bj with
            | false =>
              rw [wj] at a2
              obtain rfl := Option.some.inj a2
              exact ⟨_, rfl, by simp only [hci, wi]; rw [setD_comm p2]⟩
            | true =>
              rw [wj] at a2
              obtain ⟨r, hr, rfl⟩ := Option.map_eq_some_iff.1 a2
              exact ⟨_, by rw [hr]; rfl, by simp only [hci, wi]; rw [setD_comm p2]⟩
        | true =>
          rw [wi] at a1
          obtain ⟨r, hr, rfl⟩ := Option.map_eq_some_iff.1 a1
          simp only [hcj, xj] at a2
          cases wj : wantedA ops s.1 oj with
          | none => rw [wj] at a2; cases a2
          | some bj =>
            cases bj with
            | false =>
              rw [wj] at a2
              obtain rfl := Option.some.inj a2
              exact ⟨_, rfl, by simp only [hci, wi, xi, hr, Option.map_some]; rw [setD_comm p2]⟩
            | true =>
              rw [wj] at a2
              obtain ⟨q, hq, rfl⟩ := Option.map_eq_some_iff.1 a2
              obtain ⟨h', b1, b2⟩ := act_swap hij hok wij wji (e := s.1) (v1 := r.1) (h1 := r.2) (v2 := q.1) (h2 := q.2) (by rw [hr]) (by rw [hq])
              exact ⟨_, by rw [b1]; rfl, by simp only [hci, wi, xi, b2, Option.map_some]; rw [setD_comm p2]⟩
/-- Text order, of those that are left. -/
noncomputable def runL (P : Program) (E : Ext) (lk base : Nat) (al ws : List Nat) (ops : Array Oper) (cs : List Cls) : List Nat → List AV × List AO → Option (List AV × List AO)
  | [], s => some s
  | j :: l, s => (opG P E lk base al ws ops cs j s).bind (runL P E lk base al ws ops cs l)
/-- One of them first. -/
theorem run_front {j : Nat} : ∀ (l1 l2 : List Nat) {s z : List AV × List AO}, (∀ i ∈ l1, i ≠ j ∧ indepB ops cs i j = true) → runL P E lk base al ws ops cs (l1 ++ j :: l2) s = some z →
    ∃ s', opG P E lk base al ws ops cs j s = some s' ∧ runL P E lk base al ws ops cs (l1 ++ l2) s' = some z
  | [], l2, s, z, _, h => by
    obtain ⟨s', h1, h2⟩ := Option.bind_eq_some_iff.1 h
    exact ⟨s', h1, h2⟩
  | i :: l1, l2, s, z, hin, h => by
    obtain ⟨s1, h1, h2⟩ := Option.bind_eq_some_iff.1 h
    obtain ⟨s2, h3, h4⟩ := run_front l1 l2 (fun k hk => hin k (List.mem_cons_of_mem _ hk)) h2
    obtain ⟨a, b⟩ := hin i List.mem_cons_self
    obtain ⟨s', h5, h6⟩ := op_swap a b h1 h3
    exact ⟨s', h5, by simp only [List.cons_append, runL, h6, Option.bind_some]; exact h4⟩
end
end Go.AM
