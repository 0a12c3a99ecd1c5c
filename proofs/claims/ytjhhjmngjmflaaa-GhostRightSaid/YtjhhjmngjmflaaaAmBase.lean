/- The abstract machine: values, heaps, and how they stand to the model's. Conditions: none; definitions and small lemmas. -/
import Derived.Laws.Sem
import Derived.Laws.World
import Derived.Tactics
import Derived.Below
import Derived.MapKept
set_option linter.unusedVariables false
namespace Go.AM

/-- A cell's value. -/
inductive SV where
  | int (k : IntKind) (n : Int)
  | bool (b : Bool)
  | str (s : ByteArray)
  | nilp | nils | nilm | nilf | nili
  | ptr (l off : Nat)
  | sl (l off len esz : Nat)
  | mp (l : Nat)
  | fn (f : FuncId) (first cap : List SV)
  deriving Inhabited

/-- A value: of a cell, or of a struct or an array. -/
inductive CV where
  | sc (x : SV)
  | ag (cs : List SV)
  deriving Inhabited

/-- What a slot holds. -/
inductive AV where
  | und
  | sk
  | v (x : CV)
  | tup (vs : List CV)
  deriving Inhabited

/-- What a block holds. -/
inductive AO where
  | ro (cs : List SV)
  | rw (e : TypeId) (cs : List SV)
  | map (es : List (CV × CV))
  | gl (b : Nat) (cs : List SV)
  | dead
  deriving Inhabited

/-- Where blocks lie; how many cells they have. -/
structure G where
  blk : Nat → Nat
  off : Nat → Nat
  siz : Nat → Nat

mutual
def SRel (g : G) (n : Nat) : SV → Value → Prop
  | .int k m, v => v = .int k m
  | .bool b, v => v = .bool b
  | .str s, v => v = .string s
  | .nilp, v => v = .pointer none
  | .nils, v => v = .slice none 0 0
  | .nilm, v => v = .map none
  | .nilf, v => v = .nilFunc
  | .nili, v => v = .nilIface
  | .ptr l o, v => l < n ∧ v = .pointer (some ⟨g.blk l, g.off l + o, none⟩)
  | .sl l o len esz, v => l < n ∧ ∃ cap o' sp, len ≤ cap ∧ o + cap * esz = g.siz l ∧ (cap = 0 ∨ (o' = g.off l + o ∧ sp = none)) ∧ v = .slice (some ⟨g.blk l, o', sp⟩) len cap
  | .mp l, v => l < n ∧ v = .map (some (g.blk l))
  | .fn f a c, v => ∃ va vc : Array Value, v = .func (.func f) va vc ∧ SRelL g n a va.toList ∧ SRelL g n c vc.toList
def SRelL (g : G) (n : Nat) : List SV → List Value → Prop
  | [], [] => True
  | x :: xs, y :: ys => SRel g n x y ∧ SRelL g n xs ys
  | _, _ => False
end

def CRel (g : G) (n : Nat) : CV → Value → Prop
  | .sc x, v => SRel g n x v
  | .ag cs, v => ∃ vs : Array Value, v = .agg vs ∧ SRelL g n cs vs.toList
def CRelL (g : G) (n : Nat) : List CV → List Value → Prop
  | [], [] => True
  | x :: xs, y :: ys => CRel g n x y ∧ CRelL g n xs ys
  | _, _ => False
def VRel (g : G) (n : Nat) : AV → Value → Prop
  | .und, _ => True
  | .sk, v => v = undef
  | .v x, v => CRel g n x v
  | .tup xs, v => ∃ vs : Array Value, v = .tuple vs ∧ CRelL g n xs vs.toList

/-- The blocks below n lie as they did. -/
def GExt (n : Nat) (g g' : G) : Prop := ∀ l, l < n → g'.blk l = g.blk l ∧ g'.off l = g.off l ∧ g'.siz l = g.siz l
theorem GExt.refl (n : Nat) (g : G) : GExt n g g := fun _ _ => ⟨rfl, rfl, rfl⟩
theorem GExt.trans {n n' : Nat} {a b c : G} (h : GExt n a b) (k : GExt n' b c) (hn : n ≤ n') : GExt n a c := fun l hl =>
  let ⟨a1, a2, a3⟩ := h l hl
  let ⟨b1, b2, b3⟩ := k l (Nat.lt_of_lt_of_le hl hn)
  ⟨b1.trans a1, b2.trans a2, b3.trans a3⟩

mutual
theorem SRel.mono {g g' : G} {n n' : Nat} (hn : n ≤ n') (hg : GExt n g g') : ∀ (x : SV) (v : Value), SRel g n x v → SRel g' n' x v
  | .int _ _, _, h => by simpa [SRel] using h
  | .bool _, _, h => by simpa [SRel] using h
  | .str _, _, h => by simpa [SRel] using h
  | .nilp, _, h => by simpa [SRel] using h
  | .nils, _, h => by simpa [SRel] using h
  | .nilm, _, h => by simpa [SRel] using h
  | .nilf, _, h => by simpa [SRel] using h
  | .nili, _, h => by simpa [SRel] using h
  | .ptr l o, v, h => by
    simp only [SRel] at h ⊢
    obtain ⟨h1, h2⟩ := h
    obtain ⟨a, b, c⟩ := hg l h1
    exact ⟨by omega, by rw [a, b]; exact h2⟩
  | .sl l o len esz, v, h => by
    simp only [SRel] at h ⊢
    obtain ⟨h1, cap, o', sp, h2, h3, h4, h5⟩ := h
    obtain ⟨a, b, c⟩ := hg l h1
    exact ⟨by omega, cap, o', sp, h2, by rw [c]; exact h3, by rw [b]; exact h4, by rw [a]; exact h5⟩
  | .mp l, v, h => by
    simp only [SRel] at h ⊢
    obtain ⟨h1, h2⟩ := h
    obtain ⟨a, b, c⟩ := hg l h1
    exact ⟨by omega, by rw [a]; exact h2⟩
  | .fn f a c, v, h => by
    simp only [SRel] at h ⊢
    obtain ⟨va, vc, h1, h2, h3⟩ := h
    exact ⟨va, vc, h1, SRelL.mono hn hg a _ h2, SRelL.mono hn hg c _ h3⟩
theorem SRelL.mono {g g' : G} {n n' : Nat} (hn : n ≤ n') (hg : GExt n g g') : ∀ (xs : List SV) (vs : List Value), SRelL g n xs vs → SRelL g' n' xs vs
  | [], [], _ => by simp [SRelL]
  | x :: xs, y :: ys, h => by
    simp only [SRelL] at h ⊢
    exact ⟨SRel.mono hn hg x y h.1, SRelL.mono hn hg xs ys h.2⟩
  | [], _ :: _, h => by simp [SRelL] at h
  | _ :: _, [], h => by simp [SRelL] at h
end
theorem CRel.mono {g g' : G} {n n' : Nat} (hn : n ≤ n') (hg : GExt n g g') : ∀ (x : CV) (v : Value), CRel g n x v → CRel g' n' x v
  | .sc x, v, h => SRel.mono hn hg x v h
  | .ag cs, v, h => let ⟨vs, h1, h2⟩ := h; ⟨vs, h1, SRelL.mono hn hg cs _ h2⟩
theorem CRelL.mono {g g' : G} {n n' : Nat} (hn : n ≤ n') (hg : GExt n g g') : ∀ (xs : List CV) (vs : List Value), CRelL g n xs vs → CRelL g' n' xs vs
  | [], [], _ => by simp [CRelL]
  | x :: xs, y :: ys, h => ⟨CRel.mono hn hg x y h.1, CRelL.mono hn hg xs ys h.2⟩
  | [], _ :: _, h => by simp [CRelL] at h
  | _ :: _, [], h => by simp [CRelL] at h
theorem VRel.mono {g g' : G} {n n' : Nat} (hn : n ≤ n') (hg : GExt n g g') : ∀ (x : AV) (v : Value), VRel g n x v → VRel g' n' x v
  | .und, _, _ => trivial
  | .sk, _, h => h
  | .v x, v, h => CRel.mono hn hg x v h
  | .tup xs, v, h => let ⟨vs, h1, h2⟩ := h; ⟨vs, h1, CRelL.mono hn hg xs _ h2⟩

theorem SRelL.length {g : G} {n : Nat} : ∀ {xs : List SV} {vs : List Value}, SRelL g n xs vs → xs.length = vs.length
  | [], [], _ => rfl
  | _ :: _, _ :: _, h => by simp only [SRelL] at h; simp [SRelL.length h.2]
  | [], _ :: _, h => by simp [SRelL] at h
  | _ :: _, [], h => by simp [SRelL] at h
theorem SRelL.get {g : G} {n : Nat} : ∀ {xs : List SV} {vs : List Value}, SRelL g n xs vs → ∀ (i : Nat) (x : SV), xs[i]? = some x → ∃ v, vs[i]? = some v ∧ SRel g n x v
  | [], [], _, i, x, hx => by simp at hx
  | a :: xs, b :: vs, h, 0, x, hx => by
    simp only [SRelL] at h
    have : a = x := by simpa using hx
    subst this
    exact ⟨b, by simp, h.1⟩
  | a :: xs, b :: vs, h, i + 1, x, hx => by
    simp only [SRelL] at h
    obtain ⟨v, h1, h2⟩ := SRelL.get h.2 i x (by simpa using hx)
    exact ⟨v, by simpa using h1, h2⟩
  | [], _ :: _, h, _, _, _ => by simp [SRelL] at h
  | _ :: _, [], h, _, _, _ => by simp [SRelL] at h
theorem SRelL.of {g : G} {n : Nat} : ∀ {xs : List SV} {vs : List Value}, xs.length = vs.length → (∀ (i : Nat) (x : SV), xs[i]? = some x → ∃ v, vs[i]? = some v ∧ SRel g n x v) → SRelL g n xs vs
  | [], [], _, _ => by simp [SRelL]
  | a :: xs, b :: vs, hl, h => by
    simp only [SRelL]
    refine ⟨?_, SRelL.of (by simpa using hl) fun i x hx => by simpa using h (i + 1) x (by simpa using hx)⟩
    obtain ⟨v, h1, h2⟩ := h 0 a (by simp)
    have : b = v := by simpa using h1
    subst this
    exact h2
  | [], _ :: _, hl, _ => by simp at hl
  | _ :: _, [], hl, _ => by simp at hl
theorem SRelL.append {g : G} {n : Nat} : ∀ {xs : List SV} {vs : List Value} {ys : List SV} {us : List Value}, SRelL g n xs vs → SRelL g n ys us → SRelL g n (xs ++ ys) (vs ++ us)
  | [], [], _, _, _, k => by simpa using k
  | a :: xs, b :: vs, ys, us, h, k => by simp only [SRelL] at h; simp only [List.cons_append, SRelL]; exact ⟨h.1, SRelL.append h.2 k⟩
  | [], _ :: _, _, _, h, _ => by simp [SRelL] at h
  | _ :: _, [], _, _, h, _ => by simp [SRelL] at h
theorem CRelL.get {g : G} {n : Nat} : ∀ {xs : List CV} {vs : List Value}, CRelL g n xs vs → ∀ (i : Nat) (x : CV), xs[i]? = some x → ∃ v, vs[i]? = some v ∧ CRel g n x v
  | [], [], _, i, x, hx => by simp at hx
  | a :: xs, b :: vs, h, 0, x, hx => by
    have : a = x := by simpa using hx
    subst this
    exact ⟨b, by simp, h.1⟩
  | a :: xs, b :: vs, h, i + 1, x, hx => by
    obtain ⟨v, h1, h2⟩ := CRelL.get h.2 i x (by simpa using hx)
    exact ⟨v, by simpa using h1, h2⟩
  | [], _ :: _, h, _, _, _ => by simp [CRelL] at h
  | _ :: _, [], h, _, _, _ => by simp [CRelL] at h

/-- No scalar is a struct, an array or a tuple. -/
theorem SRel.one {g : G} {n : Nat} {x : SV} {v : Value} (h : SRel g n x v) : v.oneCell' = true ∧ v.cells = #[v] := by
  cases x <;> simp only [SRel] at h
  all_goals first
    | (subst h; exact ⟨rfl, rfl⟩)
    | (obtain ⟨_, rfl⟩ := h; exact ⟨rfl, rfl⟩)
    | (obtain ⟨_, _, _, _, _, _, _, rfl⟩ := h; exact ⟨rfl, rfl⟩)
    | (obtain ⟨_, _, rfl, _⟩ := h; exact ⟨rfl, rfl⟩)
theorem SRelL.ones {g : G} {n : Nat} : ∀ {xs : List SV} {vs : List Value}, SRelL g n xs vs → ∀ v ∈ vs, v.oneCell' = true
  | [], [], _, v, hv => by cases hv
  | a :: xs, b :: vs, h, v, hv => by
    simp only [SRelL] at h
    rcases List.mem_cons.1 hv with rfl | hv
    · exact h.1.one.1
    · exact SRelL.ones h.2 v hv
  | [], _ :: _, h, _, _ => by simp [SRelL] at h
  | _ :: _, [], h, _, _ => by simp [SRelL] at h

/-- The cells of a value. -/
def CV.cells : CV → List SV
  | .sc x => [x]
  | .ag cs => cs
theorem CRel.cells {g : G} {n : Nat} {x : CV} {v : Value} (h : CRel g n x v) : SRelL g n x.cells v.cells.toList := by
  cases x with
  | sc x => rw [SRel.one h |>.2]; simp only [CV.cells, SRelL, and_true]; exact h
  | ag cs => obtain ⟨vs, rfl, h2⟩ := h; exact h2

def AO.isRW : AO → Bool
  | .rw _ _ | .map _ => true
  | _ => false
def AO.live : AO → Bool
  | .gl _ cs => !cs.isEmpty
  | .dead => false
  | .ro cs => !cs.isEmpty
  | _ => true
def isRW (h : List AO) (l : Nat) : Prop := ∃ o, h[l]? = some o ∧ o.isRW = true
def isLive (h : List AO) (l : Nat) : Prop := ∃ o, h[l]? = some o ∧ o.live = true

def MRel (g : G) (n : Nat) : List (CV × CV) → List MapEntry → Prop
  | [], [] => True
  | x :: xs, y :: ys => (CRel g n x.1 y.key ∧ CRel g n x.2 y.val) ∧ MRel g n xs ys
  | _, _ => False
theorem MRel.mono {g g' : G} {n n' : Nat} (hn : n ≤ n') (hg : GExt n g g') : ∀ (xs : List (CV × CV)) (vs : List MapEntry), MRel g n xs vs → MRel g' n' xs vs
  | [], [], _ => by simp [MRel]
  | x :: xs, y :: ys, h => ⟨⟨CRel.mono hn hg x.1 y.key h.1.1, CRel.mono hn hg x.2 y.val h.1.2⟩, MRel.mono hn hg xs ys h.2⟩
  | [], _ :: _, h => by simp [MRel] at h
  | _ :: _, [], h => by simp [MRel] at h

/-- A block, and what is told of it. -/
def ORel (g : G) (n : Nat) (w : World) (l : Nat) : AO → Prop
  | .ro cs => ∀ (i : Nat) (x : SV), cs[i]? = some x → ∃ v, w.cell? ⟨g.blk l, g.off l + i, none⟩ = some v ∧ SRel g n x v
  | .rw e cs => ∃ C : Array Value, w.heap[g.blk l]? = some (.cells C e (0, 0)) ∧ C.size = g.off l + g.siz l ∧ cs.length ≤ g.siz l ∧ ∀ (i : Nat) (x : SV), cs[i]? = some x → ∃ v : Value, C[g.off l + i]? = some v ∧ SRel g n x v
  | .map es => ∃ (ms : Array MapEntry) (t : Nat), w.heap[g.blk l]? = some (.map ms t) ∧ MRel g n es ms.toList ∧ Go.MapKept.Stamped ms t
  | .gl b cs => g.blk l = b ∧ g.off l = 0 ∧ ∀ (i : Nat) (x : SV), cs[i]? = some x → ∃ v, w.cell? ⟨g.blk l, g.off l + i, none⟩ = some v ∧ SRel g n x v
  | .dead => True

structure HRel (g : G) (h : List AO) (w : World) : Prop where
  obj : ∀ l o, h[l]? = some o → ORel g h.length w l o
  excl : ∀ l l', l ≠ l' → isRW h l → isLive h l' → g.blk l ≠ g.blk l'

/-- Slots. -/
def ERel (g : G) (n : Nat) (e : List AV) (t : Array Value) : Prop := e.length = t.size ∧ ∀ (i : Nat) (x : AV), e[i]? = some x → ∃ v : Value, t[i]? = some v ∧ VRel g n x v
theorem ERel.mono {g g' : G} {n n' : Nat} (hn : n ≤ n') (hg : GExt n g g') {e : List AV} {t : Array Value} (h : ERel g n e t) : ERel g' n' e t :=
  ⟨h.1, fun i x hx => let ⟨v, h1, h2⟩ := h.2 i x hx; ⟨v, h1, VRel.mono hn hg x v h2⟩⟩
theorem ERel.put {g : G} {n : Nat} {e : List AV} {t : Array Value} (h : ERel g n e t) (d : Nat) {x : AV} {v : Value} (hv : VRel g n x v) : ERel g n (e.set d x) (t.setIfInBounds d v) := by
  refine ⟨by simp [h.1], fun i y hy => ?_⟩
  have hl := h.1
  by_cases hd : d = i
  · subst hd
    rw [List.getElem?_set] at hy
    simp only [if_true] at hy
    split at hy
    · rename_i hlt
      obtain rfl : x = y := by simpa using hy
      refine ⟨v, ?_, hv⟩
      rw [Array.getElem?_setIfInBounds]
      simp; omega
    · cases hy
  · rw [List.getElem?_set] at hy
    simp only [hd, if_false] at hy
    obtain ⟨u, h1, h2⟩ := h.2 i y hy
    refine ⟨u, ?_, h2⟩
    rw [Array.getElem?_setIfInBounds]
    simp [hd, h1]
theorem ERel.get {g : G} {n : Nat} {e : List AV} {t : Array Value} (h : ERel g n e t) {i : Nat} {x : AV} (hx : e[i]? = some x) : VRel g n x (t.getD i undef) := by
  obtain ⟨v, h1, h2⟩ := h.2 i x hx
  rw [Array.getD_eq_getD_getElem?, h1]
  exact h2

/-- What stays: of the blocks that were there, those that are not W. -/
structure Keeps (W : Nat → Prop) (w w' : World) : Prop where
  os : w'.os = w.os
  tape : w'.tape = w.tape
  output : w'.output = w.output
  size : w.heap.size ≤ w'.heap.size
  block : ∀ k, k < w.heap.size → ¬ W k → w'.heap[k]? = w.heap[k]?
theorem Keeps.refl (W : Nat → Prop) (w : World) : Keeps W w w := ⟨rfl, rfl, rfl, Nat.le_refl _, fun _ _ _ => rfl⟩
theorem Keeps.trans {W W' : Nat → Prop} {a b c : World} (h : Keeps W a b) (k : Keeps W' b c) (hW : ∀ i, i < a.heap.size → W' i → W i) : Keeps W a c :=
  ⟨k.os.trans h.os, k.tape.trans h.tape, k.output.trans h.output, Nat.le_trans h.size k.size, fun i hi hn =>
    (k.block i (Nat.lt_of_lt_of_le hi h.size) (fun hc => hn (hW i hi hc))).trans (h.block i hi hn)⟩
theorem Keeps.below {w w' : World} (h : Keeps (fun _ => False) w w') : Go.RowKit.Below w.heap.size w w' := ⟨h.os, h.tape, h.output, h.size, fun k hk => h.block k hk (fun h => h)⟩
theorem Keeps.alloc {W : Nat → Prop} {a w : World} (h : Keeps W a w) (o : Obj) : Keeps W a (w.alloc o) :=
  ⟨h.os, h.tape, h.output, by simp; have := h.size; omega, fun k hk hn => by
    rw [← h.block k hk hn]; exact Go.RowKit.Below.heap_alloc _ _ _ (by have := h.size; omega)⟩
theorem Keeps.drew {W : Nat → Prop} {a w : World} (h : Keeps W a w) : Keeps W a w.drew := ⟨h.os, h.tape, h.output, h.size, h.block⟩
theorem Keeps.setCell {W : Nat → Prop} {a w : World} (h : Keeps W a w) {p : Addr} (hp : W p.block ∨ a.heap.size ≤ p.block) (u : Value) : Keeps W a (w.setCell p u) :=
  ⟨h.os, h.tape, h.output, by simp [World.setCell]; exact h.size, fun k hk hn => by
    rw [← h.block k hk hn]
    refine Go.RowKit.Below.heap_setCell _ _ _ _ ?_
    rintro rfl
    rcases hp with hp | hp
    · exact hn hp
    · omega⟩

/-- Where a function's run stands: W: which blocks that were there it may write. -/
structure Inv (W : Nat → Prop) (w0 : World) (lock : Nat) (g : G) (h : List AO) (w : World) : Prop where
  rel : HRel g h w
  keep : Keeps W w0 w
  own : ∀ l, lock ≤ l → isRW h l → W (g.blk l) ∨ w0.heap.size ≤ g.blk l

end Go.AM
