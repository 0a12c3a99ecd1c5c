/- The abstract machine: code. Conditions: none; definitions alone. -/
import Derived.Test.YtjhhjmngjmflaaaAmDrws
set_option linter.unusedVariables false
namespace Go.AM
/-- An operation of a region whose order is open: on slots alone; reading, but not the blocks that it does not wait for; a new block; anything. -/
inductive GOp where
  | m
  | l
  | r (keep : List Bool)
  | a (pos : Nat)
  | b (pos : Nat) (keep : List Bool)
  | x
  | w
def GOp.cls : GOp → Cls
  | .m => .m
  | .l => .l
  | .r _ => .r
  | .a _ => .a
  | .b _ _ => .a
  | .x => .x
  | .w => .w
/-- The blocks that slots point at. -/
def keepOf (e : List AV) : List Nat → List Nat
  | [] => []
  | t :: ts => match e.getD t .und with | .v (.sc (.ptr l _)) => (2 * l + 1) :: keepOf e ts | .v (.sc (.sl l _ _ _)) => (2 * l + 1) :: keepOf e ts | _ => keepOf e ts
/-- Of blocks that slots point at: those but which nothing turns; behind the mark: those of which nothing turns. -/
def blocksOf (e : List AV) : List Nat → List Nat
  | [] => []
  | t :: ts => if t = 1000000 then keepOf e ts else match e.getD t .und with | .v (.sc (.ptr l _)) => (2 * l) :: blocksOf e ts | .v (.sc (.sl l _ _ _)) => (2 * l) :: blocksOf e ts | _ => blocksOf e ts
/-- How such a region is run: it reads alone; so does its head, and its tail is in order; in any order. -/
inductive Way where
  | quiet
  | tail (n : Nat)
  | any (al ws : List Nat) (cl : List GOp)
def gOk1 (al : List Nat) (j : Nat) (c : GOp) (o : Oper) : Bool :=
  match c with
  | .m => memfree o
  | .r keep => keep == al.map (waits o)
  | .a pos => al.idxOf j == pos && decide (pos < al.length)
  | .b pos keep => (al.idxOf j == pos && decide (pos < al.length)) && keep == al.map (waits o)
  | _ => true
def gOk (al : List Nat) : Nat → List GOp → List Oper → Bool
  | _, [], [] => true
  | j, c :: cs, o :: l => gOk1 al j c o && gOk al (j + 1) cs l
  | _, _, _ => false
def resv : Nat → List AO → List AO
  | 0, h => h
  | n + 1, h => resv n (h ++ [.dead])
theorem resv_eq : ∀ (n : Nat) (h : List AO), resv n h = h ++ List.replicate n .dead
  | 0, h => by simp [resv]
  | n + 1, h => by rw [resv, resv_eq n, List.append_assoc]; rfl
def maskL (base : Nat) : Nat → List Bool → List AO → List AO
  | _, [], h => h
  | k, true :: ks, h => maskL base (k + 1) ks h
  | k, false :: ks, h => (maskL base (k + 1) ks h).set (base + k) .dead
theorem maskL_eq (o : Oper) (base : Nat) (h : List AO) : ∀ (al : List Nat) (k : Nat), maskL base k (al.map (waits o)) h = maskH o base k al h
  | [], k => rfl
  | i :: al, k => by
    simp only [List.map_cons, maskH]
    cases hw : waits o i with
    | true => simp only [maskL, if_true]; exact maskL_eq o base h al _
    | false => simp only [maskL, Bool.false_eq_true, if_false]; rw [maskL_eq o base h al _]
abbrev noE : Ext := fun _ _ _ _ => none
theorem quiet_noE {P : Program} (o : Oper) (e : List AV) (h : List AO) : quietA P noE o e h = pureA P o e h := by
  unfold quietA
  cases pureA P o e h with
  | some r => rfl
  | none => simp only; split <;> rfl
noncomputable def gactA (P : Program) (E : Ext) (lk base : Nat) (ws : List Nat) (c : GOp) (o : Oper) (e : List AV) (h : List AO) : Option (AV × List AO) :=
  match c with
  | .m => (quietA P noE o e h).map fun v => (v, h)
  | .l => (readA P ws base o e h).map fun v => (v, h)
  | .r keep => (quietA P E o e (maskL base 0 keep h)).map fun v => (v, h)
  | .a pos => (allocA P o e).bind fun p => if isDead h[base + pos]? = true then some (p.1 (base + pos), h.set (base + pos) p.2) else none
  | .b pos keep => (copyA P o e (maskL base 0 keep h)).bind fun p => if isDead h[base + pos]? = true then some (p.1 (base + pos), h.set (base + pos) p.2) else none
  | .x => (stepA P E lk o e h).bind fun r => open Classical in if LowEq ws base h r.2 then some r else none
  | .w => stepA P E lk o e h
noncomputable def opsG (P : Program) (E : Ext) (lk base : Nat) (ws : List Nat) (ops : Array Oper) : List GOp → List Oper → List AV → List AO → (List AV → List AO → Res) → Res
  | _, [], e, h, K => K e h
  | c :: cs, o :: rest, e, h, K =>
    match wantedA ops e o with
    | some true => (gactA P E lk base ws c o e h).bind fun r => opsG P E lk base ws ops cs rest (setD e o.dst r.1) r.2 K
    | some false => opsG P E lk base ws ops cs rest (setD e o.dst .sk) h K
    | none => none
  | [], _ :: _, _, _, _ => none
section
variable {P : Program} {E : Ext} {lk base : Nat} {al ws : List Nat} {ops : Array Oper}
theorem gact_eq {j : Nat} {c : GOp} {o : Oper} {e : List AV} {h : List AO} {cs : List Cls} (hj : cs.getD j .w = c.cls) (hk : gOk1 al j c o = true) {r : AV × List AO} (ha : gactA P E lk base ws c o e h = some r) : actG P E lk base al ws cs j o e h = some r := by
  rw [← ha]
  cases c with
  | m => simp only [gOk1] at hk; simp only [gactA, actG, hj, GOp.cls, quiet_noE, rdG, hk, if_true]
  | l => simp only [gactA, actG, hj, GOp.cls, rdG]
  | r keep =>
    simp only [gOk1, beq_iff_eq] at hk
    subst hk
    simp only [gactA, actG, hj, GOp.cls, rdG, maskL_eq]
  | a pos =>
    simp only [gOk1, Bool.and_eq_true, decide_eq_true_eq, beq_iff_eq] at hk
    obtain ⟨rfl, hp⟩ := hk
    simp only [gactA] at ha ⊢
    obtain ⟨p, h1, h2⟩ := Option.bind_eq_some_iff.1 ha
    simp only [actG, hj, GOp.cls, hp, true_and, newA_alloc h1, h1]
  | b pos keep =>
    simp only [gOk1, Bool.and_eq_true, decide_eq_true_eq, beq_iff_eq] at hk
    obtain ⟨⟨rfl, hp⟩, rfl⟩ := hk
    simp only [gactA, maskL_eq] at ha ⊢
    obtain ⟨p, h1, h2⟩ := Option.bind_eq_some_iff.1 ha
    simp only [actG, hj, GOp.cls, hp, true_and, newA_copy h1, h1]
  | x => simp only [gactA, actG, hj, GOp.cls]
  | w => simp only [gactA, actG, hj, GOp.cls]
theorem opsG_run {K : List AV → List AO → Res} {r : AV × List AO} {all : List GOp} : ∀ (l : List Oper) (j : Nat) (cs : List GOp) (e : List AV) (h : List AO), (∀ (i : Nat), ops[j + i]? = l[i]?) → (∀ (i : Nat), all[j + i]? = cs[i]?) → gOk al j cs l = true →
    opsG P E lk base ws ops cs l e h K = some r → ∃ s, runL P E lk base al ws ops (all.map GOp.cls) (List.range' j l.length) (e, h) = some s ∧ K s.1 s.2 = some r
  | [], j, cs, e, h, _, _, _, hr => ⟨(e, h), rfl, by unfold opsG at hr; exact hr⟩
  | o :: l, j, [], e, h, _, _, hk, _ => by simp [gOk] at hk
  | o :: l, j, c :: cs, e, h, hl, hc, hk, hr => by
    simp only [gOk, Bool.and_eq_true] at hk
    have hj : ops[j]? = some o := by simpa using hl 0
    have hcj : (all.map GOp.cls).getD j .w = c.cls := by
      have : all[j]? = some c := by simpa using hc 0
      simp [List.getD_eq_getElem?_getD, this]
    have hl' : ∀ i, ops[j + 1 + i]? = l[i]? := fun i => by rw [show j + 1 + i = j + (i + 1) by omega, hl]; simp
    have hc' : ∀ i, all[j + 1 + i]? = cs[i]? := fun i => by rw [show j + 1 + i = j + (i + 1) by omega, hc]; simp
    simp only [opsG] at hr
    simp only [List.length_cons, List.range'_succ, runL, opG, hj]
    split at hr
    · rename_i hw
      obtain ⟨r', h1, h2⟩ := Option.bind_eq_some_iff.1 hr
      have h1 := gact_eq (P := P) (E := E) (lk := lk) (base := base) (ws := ws) hcj hk.1 h1
      simp only [hw, h1, Option.map_some, Option.bind_some]
      exact opsG_run l (j + 1) cs _ _ hl' hc' hk.2 h2
    · rename_i hw
      simp only [hw, Option.bind_some]
      exact opsG_run l (j + 1) cs _ _ hl' hc' hk.2 hr
    · cases hr
end

structure Env where
  P : Program
  E : Ext
  lock : Nat
  fuel : Nat
  er : Nat → List Nat
  dr : Nat → Option Way

noncomputable def codeA (V : Env) : Code → List AV → List AO → (List AV → List AO → Res) → (Nat → List AV → List AO → Res) → (List AV → List AO → Res) → Res
  | .skip, e, h, kn, _, _ => kn e h
  | .label _, e, h, kn, _, _ => kn e h
  | .region id ops false, e, h, kn, _, _ => opsA V.P V.E V.lock ops ops.toList (forget e (V.er id)) h kn
  | .region id ops true, e, h, kn, _, _ =>
    match V.dr id with
    | some .quiet => opsQ V.P V.E ops ops.toList (forget e (V.er id)) h (fun e => kn e h)
    | some (.tail n) => opsQ V.P (fun _ _ _ _ => none) ops (ops.toList.take n) (forget e (V.er id)) h (fun e => opsA V.P V.E V.lock ops (ops.toList.drop n) e h kn)
    | some (.any al ws cl) => opsG V.P V.E V.lock h.length (blocksOf (forget e (V.er id)) ws) ops cl ops.toList (forget e (V.er id)) (resv al.length h) kn
    | none => none
  | .seq a b, e, h, kn, kx, kr => codeA V a e h (fun e h => codeA V b e h kn kx kr) kx kr
  | .cond c a b, e, h, kn, kx, kr =>
    match aeval e c with
    | .v (.sc (.bool q)) => bif q then codeA V a e h kn kx kr else codeA V b e h kn kx kr
    | _ => none
  | .block id b, e, h, kn, kx, kr => codeA V b e h kn (fun i e h => if i = id then kn e h else kx i e h) kr
  | .loop b, e, h, kn, kx, kr => iterA (fun again (s : List AV × List AO) => codeA V b s.1 s.2 (fun e h => again (e, h)) kx kr) V.fuel (e, h)
  | .scope b, e, h, kn, kx, kr => codeA V b e h kn kx kr
  | .exit id, e, h, _, kx, _ => kx id e h
  | .ret, e, h, _, _, kr => kr e h
  | _, _, _, _, _, _ => none

/-- Are the regions whose order is open as they are told? -/
def drOk (dr : Nat → Option Way) : Code → Bool
  | .region id ops true => match dr id with | none => true | some .quiet => Region.lexB .any ops | some (.tail n) => Region.lexTailB .any ops n | some (.any al ws cl) => lexG ops (cl.map GOp.cls) && writeB al ops (cl.map GOp.cls) && gOk al 0 cl ops.toList
  | .seq a b => drOk dr a && drOk dr b
  | .cond _ a b => drOk dr a && drOk dr b
  | .block _ b => drOk dr b
  | .loop b => drOk dr b
  | .scope b => drOk dr b
  | _ => true
/-- A function's results. -/
def resultA (P : Program) (e : List AV) (h : List AO) : ResultVar → Option CV
  | .tmp t => toC (e.getD t .und)
  | .cell a t => (loadA P h t (e.getD a .und)).bind toC
def resultsA (P : Program) (e : List AV) (h : List AO) : List ResultVar → Option (List CV)
  | [] => some []
  | r :: rs => (resultA P e h r).bind fun x => (resultsA P e h rs).map (x :: ·)
def retA (P : Program) (rs : List ResultVar) (e : List AV) (h : List AO) : Res :=
  (resultsA P e h rs).bind fun vs => match vs with | [x] => some (.v x, h) | vs => some (.tup vs, h)
/-- A function's run. -/
noncomputable def runA (V : Env) (fn : Func) (c : Code) (args : List CV) (h : List AO) : Res :=
  codeA V c (args.map .v ++ List.replicate (fn.ntmps - args.length) .und) h (fun e h => retA V.P fn.results.toList e h) (fun _ _ _ => none) (fun e h => retA V.P fn.results.toList e h)
end Go.AM
