/- The abstract machine: a law's arguments, opened: structs of numbers and bools. Conditions: none. -/
import Derived.Test.YtjhhjmngjmflaaaAmRow
import Derived.OpenShut
import Derived.ChangeArms
import Derived.WideShapes
import Derived.Carry
import Derived.Deep.Slices
set_option linter.unusedVariables false
namespace Go.AM
open Go.ChangeShapes Go.WideShapes
/-- A cell's kind. -/
inductive FK where
  | i (k : IntKind)
  | b
def FK.ok : FK → SV → Prop
  | .i k, x => ∃ n, x = .int k n ∧ (Lit.int k n).wf = true
  | .b, x => ∃ q, x = .bool q
section
variable {H : Type} {enc : TypeId × Value → H} {P : Program} {w : World} {base : Nat} {spare : Nat → Bool} {held : Bool}
end
end Go.AM
/- The abstract machine: a law's arguments, opened: slices, arrays and structs of numbers, bools and strings. Conditions: none. -/
set_option linter.unusedVariables false
namespace Go.AM
open Go.ChangeShapes Go.WideShapes Go.Deep
/-- What cells hold. -/
inductive Sh where
  | int (k : IntKind)
  | bool
  | str
  | nil
  | pair (n : Nat) (a b : Sh)
  | slice (s : Nat) (e : Sh)
def shFs (P : Program) (F : TypeId → Option Sh) (total : Nat) : Nat → List Field → Option Sh
  | off, [] => if off = total then some .nil else none
  | off, f :: fs => if f.offset = off ∧ off + P.cellsOf f.type ≤ total then (F f.type).bind fun a => (shFs P F total (off + P.cellsOf f.type) fs).map fun b => .pair (P.cellsOf f.type) a b else none
def shN (s : Nat) (a : Sh) : Nat → Sh
  | 0 => .nil
  | n + 1 => .pair s a (shN s a n)
def shOf (P : Program) : Nat → TypeId → Option Sh
  | 0, _ => none
  | d + 1, t =>
    match P.underlying t with
    | some (.int k) => some (.int k)
    | some .bool => some .bool
    | some .string => some .str
    | some (.struct fs) => shFs P (shOf P d) (P.cellsOf t) 0 fs.toList
    | some (.array n e) => if n * P.cellsOf e = P.cellsOf t then (shOf P d e).map fun a => shN (P.cellsOf e) a n else none
    | some (.slice e) => if P.cellsOf e = 0 then none else (shOf P d e).map (.slice (P.cellsOf e))
    | _ => none
/-- Cells that are read so. -/
def Rd (w : World) : Sh → List Value → Prop
  | .int k, cs => ∃ n, cs = [.int k n] ∧ (Lit.int k n).wf = true
  | .bool, cs => ∃ b, cs = [.bool b]
  | .str, cs => ∃ s : ByteArray, cs = [.string s] ∧ s.size ≤ maxLen
  | .nil, cs => cs = []
  | .pair n a b, cs => n ≤ cs.length ∧ Rd w a (cs.take n) ∧ Rd w b (cs.drop n)
  | .slice s e, cs => s ≠ 0 ∧ (cs = [.slice none 0 0] ∨ ∃ (a : Addr) (len cap : Nat), cs = [.slice (some a) len cap] ∧ len ≤ cap ∧ cap ≤ maxLen ∧ ∀ i, i < cap → ∃ cs', w.cells? 0 (a.add (i * s)) s = some cs' ∧ Rd w e cs')
section
variable {H : Type} {enc : TypeId × Value → H} {P : Program} {w : World} {held : Bool}
theorem rd_fs {n : Nat} {cs : List Value} {F : TypeId → Option Sh} (hF : ∀ t sh, F t = some sh → ∀ cs x, DataW.trod enc P w 0 (fun _ => true) held n t cs = some x → Rd w sh cs) :
    ∀ (fs : List Field) (off : Nat) (sh : Sh), shFs P F cs.length off fs = some sh → (∀ f ∈ fs, ∃ x, DataW.trod enc P w 0 (fun _ => true) held n f.type ((cs.drop f.offset).take (P.cellsOf f.type)) = some x) → Rd w sh (cs.drop off)
  | [], off, sh, hs, _ => by
    simp only [shFs] at hs
    split at hs
    · rename_i h; obtain rfl := Option.some.inj hs
      simp [Rd, h]
    · cases hs
  | f :: fs, off, sh, hs, hx => by
    simp only [shFs] at hs
    split at hs
    · rename_i h
      obtain ⟨a, h1, h2⟩ := Option.bind_eq_some_iff.1 hs
      obtain ⟨b, h3, rfl⟩ := Option.map_eq_some_iff.1 h2
      obtain ⟨x, hx1⟩ := hx f List.mem_cons_self
      rw [h.1] at hx1
      refine ⟨by simp; omega, hF _ _ h1 _ _ hx1, ?_⟩
      rw [List.drop_drop]
      exact rd_fs hF fs _ b h3 fun g hg => hx g (List.mem_cons_of_mem _ hg)
    · cases hs
theorem rd_n {s m : Nat} {a : Sh} {cs : List Value} (hl : cs.length = m * s) (hx : ∀ i, i < m → Rd w a ((cs.drop (i * s)).take s)) : ∀ k, k ≤ m → Rd w (shN s a k) (cs.drop ((m - k) * s))
  | 0, _ => by simp [shN, Rd, hl]
  | k + 1, hk => by
    refine ⟨?_, hx (m - (k + 1)) (by omega), ?_⟩
    · rw [List.length_drop, hl, ← Nat.sub_mul]
      have : m - (m - (k + 1)) = k + 1 := by omega
      rw [this, Nat.add_mul]; omega
    · rw [List.drop_drop]
      have e : (m - (k + 1)) * s + s = (m - k) * s := by rw [show m - k = m - (k + 1) + 1 by omega, Nat.add_mul]; omega
      rw [e]
      exact rd_n hl hx k (by omega)
theorem rd_of : ∀ (d : Nat) (t : TypeId) (sh : Sh), shOf P d t = some sh → ∀ (n : Nat) (cs : List Value) (x : DataW H × List MemPlace), DataW.trod enc P w 0 (fun _ => true) held n t cs = some x → Rd w sh cs
  | 0, t, sh, hs, _, _, _, _ => by simp [shOf] at hs
  | d + 1, t, sh, hs, n, cs, x, h => by
    unfold shOf at hs
    split at hs
    · rename_i k ht
      obtain rfl := Option.some.inj hs
      obtain ⟨m, rfl, _, hw⟩ := DataW.trod_int ht h
      exact ⟨m, rfl, hw⟩
    · rename_i ht
      obtain rfl := Option.some.inj hs
      obtain ⟨b, rfl, _⟩ := DataW.trod_bool ht h
      exact ⟨b, rfl⟩
    · rename_i ht
      obtain rfl := Option.some.inj hs
      obtain ⟨s, rfl, _, hw⟩ := DataW.trod_string ht h
      exact ⟨s, rfl, hw⟩
    · rename_i fs ht
      obtain ⟨ys, m, rfl, _, hl, hyl, hy⟩ := DataW.trod_struct ht h
      rw [← hl] at hs
      have := rd_fs (H := H) (enc := enc) (P := P) (w := w) (held := held) (n := m) (cs := cs) (fun t' sh' hs' cs' x' hx' => rd_of d t' sh' hs' m cs' x' hx') fs.toList 0 sh hs fun f hf => by
        obtain ⟨i, hi, he⟩ := List.getElem_of_mem hf
        have hi' : i < fs.size := by simpa using hi
        have h1 := hy i f (by rw [← he]; simp [hi'])
        rw [List.getElem?_eq_getElem (by omega)] at h1
        exact ⟨_, h1⟩
      simpa using this
    · rename_i m e ht
      split at hs
      · rename_i hme
        obtain ⟨a, h1, rfl⟩ := Option.map_eq_some_iff.1 hs
        obtain ⟨ys, q, rfl, _, hl, hyl, hy⟩ := DataW.trod_array ht h
        have := rd_n (w := w) (s := P.cellsOf e) (m := m) (a := a) (cs := cs) (by omega) (fun i hi => by
          have h2 := hy i hi
          rw [List.getElem?_eq_getElem (by omega)] at h2
          exact rd_of d e a h1 q _ _ h2) m (Nat.le_refl _)
        simpa using this
      · cases hs
    · rename_i e ht
      split at hs
      · cases hs
      obtain ⟨a, h1, rfl⟩ := Option.map_eq_some_iff.1 hs
      rcases open_slice ht h with ⟨rfl, _⟩ | ⟨ad, len, cap, m, q, D, Pl, rfl, _, hl, hm, hmm, _, hx⟩
      · exact ⟨by assumption, .inl rfl⟩
      · simp only [if_true] at hmm
        subst hmm
        exact ⟨by assumption, .inr ⟨ad, len, m, rfl, hl, hm, fun i hi => by
          obtain ⟨cs', c1, c2⟩ := hx i hi
          exact ⟨cs', c1, rd_of d e a h1 q _ _ c2⟩⟩⟩
    · cases hs
end
/-- What is told of them. -/
def Fits : Sh → List AO → List SV → Prop
  | .int k, _, xs => ∃ n, xs = [.int k n] ∧ (Lit.int k n).wf = true
  | .bool, _, xs => ∃ b, xs = [.bool b]
  | .str, _, xs => ∃ s : ByteArray, xs = [.str s] ∧ s.size ≤ maxLen
  | .nil, _, xs => xs = []
  | .pair n a b, h, xs => n ≤ xs.length ∧ Fits a h (xs.take n) ∧ Fits b h (xs.drop n)
  | .slice s e, h, xs => xs = [.nils] ∨ ∃ (l n : Nat) (cs : List SV), xs = [.sl l 0 n s] ∧ h[l]? = some (.ro cs) ∧ cs.length = n * s ∧ n ≤ maxLen ∧ ∀ i, i < n → Fits e h ((cs.drop (i * s)).take s)
theorem Fits.mono {h : List AO} (t : List AO) : ∀ (sh : Sh) (xs : List SV), Fits sh h xs → Fits sh (h ++ t) xs
  | .int k, xs, H => H
  | .bool, xs, H => H
  | .str, xs, H => H
  | .nil, xs, H => H
  | .pair n a b, xs, H => ⟨H.1, Fits.mono t a _ H.2.1, Fits.mono t b _ H.2.2⟩
  | .slice s e, xs, H => by
    rcases H with H | ⟨l, n, cs, h1, h2, h3, h4, h5⟩
    · exact .inl H
    · exact .inr ⟨l, n, cs, h1, by rw [List.getElem?_append_left (List.getElem?_eq_some_iff.1 h2).1]; exact h2, h3, h4, fun i hi => Fits.mono t e _ (h5 i hi)⟩
def noRW (h : List AO) : Prop := ∀ l, ¬ isRW h l
theorem noRW.push {h : List AO} (H : noRW h) (cs : List SV) : noRW (h ++ [.ro cs]) := fun l hl => by
  rcases isRW_append hl with h1 | ⟨_, h1⟩
  · exact H l h1
  · cases h1
theorem HRel.push_ro {g : G} {h : List AO} {w : World} (H : HRel g h w) (hn : noRW h) (cs : List SV) (b off s : Nat) (ho : ORel (g.upd h.length b off s) (h.length + 1) w h.length (.ro cs)) : HRel (g.upd h.length b off s) (h ++ [.ro cs]) w := by
  have hext := g.upd_ext h.length b off s
  constructor
  · intro l q hq
    rcases Nat.lt_or_ge l h.length with h1 | h1
    · rw [List.getElem?_append_left h1] at hq
      rw [List.length_append, List.length_singleton]
      exact ORel.mono (by omega) hext h1 (H.obj l q hq)
    · rw [List.getElem?_append_right h1] at hq
      have h0 : l - h.length = 0 := by
        rcases Nat.eq_zero_or_pos (l - h.length) with h2 | h2
        · exact h2
        · rw [List.getElem?_eq_none (by simp; omega)] at hq; cases hq
      rw [h0] at hq
      obtain rfl : AO.ro cs = q := by simpa using hq
      have : l = h.length := by omega
      subst this
      rw [List.length_append, List.length_singleton]; exact ho
  · intro l l' _ hl _; exact absurd hl ((hn.push cs) l)
theorem cells_at_addr {w : World} {a : Addr} {k s : Nat} {cs : List Value} (h : w.cells? 0 (a.add k) s = some cs) : cs.length = s ∧ ∀ (i : Nat) (v : Value), cs[i]? = some v → w.cell? ((a.add k).add i) = some v := by
  unfold World.cells? at h
  rw [if_pos (Nat.zero_le _)] at h
  have key : ∀ (l : List Nat) (cs : List Value), l.mapM (fun i => w.cell? ((a.add k).add i)) = some cs → cs.length = l.length ∧ ∀ (i : Nat) (v : Value), cs[i]? = some v → ∃ j, l[i]? = some j ∧ w.cell? ((a.add k).add j) = some v := by
    intro l
    induction l with
    | nil => intro cs h; simp at h; subst h; simp
    | cons x l ih =>
      intro cs h
      rw [List.mapM_cons] at h
      simp only [Option.bind_eq_bind, Option.bind_eq_some_iff, Option.pure_def, Option.some.injEq] at h
      obtain ⟨v, h1, vs, h2, rfl⟩ := h
      obtain ⟨i1, i2⟩ := ih vs h2
      refine ⟨by simp [i1], fun i v' hv => ?_⟩
      cases i with
      | zero => exact ⟨x, by simp, by simp at hv; subst hv; exact h1⟩
      | succ i => obtain ⟨j, j1, j2⟩ := i2 i v' (by simpa using hv); exact ⟨j, by simpa using j1, j2⟩
  obtain ⟨k1, k2⟩ := key _ _ h
  refine ⟨by simpa using k1, fun i v hv => ?_⟩
  obtain ⟨j, j1, j2⟩ := k2 i v hv
  have hi : i < s := by have := (List.getElem?_eq_some_iff.1 hv).1; rw [k1] at this; simpa using this
  rw [List.getElem?_range hi] at j1
  obtain rfl := Option.some.inj j1
  exact j2
theorem cell_none {w : World} {x : Addr} {v : Value} (h : w.cell? x = some v) : w.cell? ⟨x.block, x.off, none⟩ = some v ∧ x.spot = none := by
  obtain ⟨b, o, sp⟩ := x
  unfold World.cell? at h ⊢
  simp only at h ⊢
  cases sp with
  | none => exact ⟨h, rfl⟩
  | some q => split at h <;> simp at h
theorem add_off (a : Addr) (m i : Nat) : ((a.add m).add i).block = a.block ∧ ((a.add m).add i).off = a.off + (m + i) := by
  unfold Addr.add
  by_cases h1 : m = 0 <;> by_cases h2 : i = 0 <;> simp [h1, h2] <;> omega
/-- The cells, told; blocks are added, that nobody writes. -/
def Opens (w : World) (sh : Sh) (cs : List Value) : Prop :=
  ∀ (g : G) (h : List AO), HRel g h w → noRW h → ∃ (g' : G) (t : List AO) (xs : List SV), HRel g' (h ++ t) w ∧ noRW (h ++ t) ∧ GExt h.length g g' ∧ SRelL g' (h ++ t).length xs cs ∧ Fits sh (h ++ t) xs
theorem opens_els {w : World} {s : Nat} {e : Sh} {a : Addr} {cap : Nat} (ih : ∀ cs, Rd w e cs → Opens w e cs) (hx : ∀ i, i < cap → ∃ cs', w.cells? 0 (a.add (i * s)) s = some cs' ∧ Rd w e cs') :
    ∀ k, k ≤ cap → ∀ (g : G) (h : List AO), HRel g h w → noRW h → ∃ (g' : G) (t : List AO) (ys : List SV) (vs : List Value), HRel g' (h ++ t) w ∧ noRW (h ++ t) ∧ GExt h.length g g' ∧ SRelL g' (h ++ t).length ys vs ∧ ys.length = k * s ∧
      (∀ (j : Nat) (v : Value), vs[j]? = some v → w.cell? ⟨a.block, a.off + j, none⟩ = some v) ∧ ∀ i, i < k → Fits e (h ++ t) ((ys.drop (i * s)).take s)
  | 0, _, g, h, H, hn => ⟨g, [], [], [], by simpa using H, by simpa using hn, GExt.refl _ _, by simp [SRelL], by simp, fun j v hv => by simp at hv, fun i hi => by omega⟩
  | k + 1, hk, g, h, H, hn => by
    obtain ⟨g1, t1, ys, vs, a1, a2, a3, a4, a5, a6, a7⟩ := opens_els ih hx k (by omega) g h H hn
    obtain ⟨cs', c1, c2⟩ := hx k (by omega)
    obtain ⟨c3, c4⟩ := cells_at_addr c1
    obtain ⟨g2, t2, xs, b1, b2, b3, b4, b5⟩ := ih cs' c2 g1 (h ++ t1) a1 a2
    have hxl : xs.length = s := (SRelL.length b4).trans c3
    have hvl : vs.length = k * s := (SRelL.length a4).symm.trans a5
    refine ⟨g2, t1 ++ t2, ys ++ xs, vs ++ cs', by rw [← List.append_assoc]; exact b1, by rw [← List.append_assoc]; exact b2, a3.trans b3 (by simp), ?_, by rw [List.length_append, a5, hxl, Nat.add_mul]; omega, fun j v hv => ?_, fun i hi => ?_⟩
    · rw [← List.append_assoc]
      exact SRelL.append (SRelL.mono (by simp) b3 _ _ a4) b4
    · rcases Nat.lt_or_ge j vs.length with h1 | h1
      · rw [List.getElem?_append_left h1] at hv; exact a6 j v hv
      · rw [List.getElem?_append_right h1] at hv
        have h2 := (cell_none (c4 _ v hv)).1
        obtain ⟨o1, o2⟩ := add_off a (k * s) (j - vs.length)
        rw [o1, o2] at h2
        rw [show a.off + j = a.off + (k * s + (j - vs.length)) by omega]
        exact h2
    · rw [← List.append_assoc]
      rcases Nat.lt_or_ge i k with h1 | h1
      · have h3 : i * s + s ≤ ys.length := by rw [a5]; have := Nat.mul_le_mul_right s (show i + 1 ≤ k by omega); rw [Nat.add_mul] at this; omega
        rw [List.drop_append_of_le_length (by omega), List.take_append_of_le_length (by simp; omega)]
        exact Fits.mono t2 e _ (a7 i h1)
      · obtain rfl : i = k := by omega
        rw [← a5, List.drop_left, List.take_of_length_le (by omega)]
        exact b5
theorem opens_of {w : World} : ∀ (sh : Sh) (cs : List Value), Rd w sh cs → Opens w sh cs
  | .int k, cs, hr => fun g h H hn => by
    obtain ⟨n, rfl, hw⟩ := hr
    exact ⟨g, [], [.int k n], by simpa using H, by simpa using hn, GExt.refl _ _, by simp [SRelL, SRel], ⟨n, rfl, hw⟩⟩
  | .bool, cs, hr => fun g h H hn => by
    obtain ⟨b, rfl⟩ := hr
    exact ⟨g, [], [.bool b], by simpa using H, by simpa using hn, GExt.refl _ _, by simp [SRelL, SRel], ⟨b, rfl⟩⟩
  | .str, cs, hr => fun g h H hn => by
    obtain ⟨s, rfl, hw⟩ := hr
    exact ⟨g, [], [.str s], by simpa using H, by simpa using hn, GExt.refl _ _, by simp [SRelL, SRel], ⟨s, rfl, hw⟩⟩
  | .nil, cs, hr => fun g h H hn => by
    obtain rfl : cs = [] := hr
    exact ⟨g, [], [], by simpa using H, by simpa using hn, GExt.refl _ _, by simp [SRelL], rfl⟩
  | .pair n a b, cs, hr => fun g h H hn => by
    obtain ⟨r1, r2, r3⟩ := hr
    obtain ⟨g1, t1, x1, a1, a2, a3, a4, a5⟩ := opens_of a _ r2 g h H hn
    obtain ⟨g2, t2, x2, b1, b2, b3, b4, b5⟩ := opens_of b _ r3 g1 (h ++ t1) a1 a2
    have hl : x1.length = n := by have := SRelL.length a4; rw [List.length_take] at this; omega
    refine ⟨g2, t1 ++ t2, x1 ++ x2, by rw [← List.append_assoc]; exact b1, by rw [← List.append_assoc]; exact b2, a3.trans b3 (by simp), ?_, ?_⟩
    · rw [← List.append_assoc]
      have := SRelL.append (SRelL.mono (by simp) b3 _ _ a4) b4
      rwa [List.take_append_drop] at this
    · rw [← List.append_assoc]
      refine ⟨by simp; omega, ?_, ?_⟩
      · rw [← hl, List.take_left]; exact Fits.mono t2 a _ a5
      · rw [← hl, List.drop_left]; exact b5
  | .slice s e, cs, hr => fun g h H hn => by
    obtain ⟨hs, hr⟩ := hr
    rcases hr with rfl | ⟨a, len, cap, rfl, hl, hm, hx⟩
    · exact ⟨g, [], [.nils], by simpa using H, by simpa using hn, GExt.refl _ _, by simp [SRelL, SRel], .inl rfl⟩
    · obtain ⟨g1, t1, ys, vs, a1, a2, a3, a4, a5, a6, a7⟩ := opens_els (fun cs' => opens_of e cs') hx len hl g h H hn
      have hext := g1.upd_ext (h ++ t1).length a.block a.off (cap * s)
      have ho : ORel (g1.upd (h ++ t1).length a.block a.off (cap * s)) ((h ++ t1).length + 1) w (h ++ t1).length (.ro ys) := fun i x hi => by
        obtain ⟨v, v1, v2⟩ := SRelL.get a4 i x hi
        exact ⟨v, by simp only [G.upd, if_true]; exact a6 i v v1, SRel.mono (by omega) hext x v v2⟩
      have hp := a1.push_ro a2 ys a.block a.off (cap * s) ho
      refine ⟨_, t1 ++ [.ro ys], [.sl (h ++ t1).length 0 len s], by rw [← List.append_assoc]; exact hp, by rw [← List.append_assoc]; exact a2.push ys, a3.trans hext (by simp), ?_, ?_⟩
      · rw [← List.append_assoc]
        simp only [SRelL, SRel, and_true]
        refine ⟨by simp, cap, a.off, a.spot, hl, by simp [G.upd], ?_, by simp [G.upd]⟩
        rcases Nat.eq_zero_or_pos cap with h0 | h0
        · exact .inl h0
        · right
          refine ⟨by simp [G.upd], ?_⟩
          obtain ⟨cs', c1, _⟩ := hx 0 h0
          obtain ⟨c3, c4⟩ := cells_at_addr c1
          have hc : cs'[0]? = some cs'[0] := List.getElem?_eq_getElem (by omega)
          have := (cell_none (c4 0 _ hc)).2
          simpa [Addr.add] using this
      · rw [← List.append_assoc]
        refine .inr ⟨(h ++ t1).length, len, ys, rfl, by simp, a5, by omega, fun i hi => ?_⟩
        exact Fits.mono [.ro ys] e _ (a7 i hi)
theorem okWide_arr {P : Program} {w : World} {r : Reach} {base n : Nat} {t e : TypeId} {v : Value} (ht : P.underlying t = some (.array n e)) (h : Value.okWide P w r base t v) : ∃ cs, v = .agg cs := by
  simp only [Value.okWide, ht] at h
  obtain ⟨cs, h1, _⟩ := h
  exact ⟨cs, h1⟩
theorem one_of {g : G} {n : Nat} {xs : List SV} {v : Value} (h : SRelL g n xs [v]) : ∃ q, xs = [q] ∧ SRel g n q v := by
  match xs, h with
  | [q], h => exact ⟨q, rfl, h.1⟩
  | [], h => simp [SRelL] at h
  | _ :: _ :: _, h => simp [SRelL] at h
theorem noRW_nil : noRW [] := fun l ⟨o, ho, _⟩ => by simp at ho
/-- A law whose arguments lie in memory: it answers true, and turns nothing. -/
theorem row_call2 {P : Program} {T : Tab} {K d : Nat} (hT : TabOk P T) (hany : P.follows .mixedOrders = true) {f : FuncId} {g : G} {h : List AO} {w : World} (H : HRel g h w) (hn : noRW h) {xs : List CV} {vals : List Value} (hv : CRelL g h.length xs vals) {lk : Nat} {h' : List AO}
    (he : ev P T K d f xs lk h = some (.v (.sc (.bool true)), h')) : Calls P f vals.toArray w (fun e w' => e = .returned (.bool true) ∧ Go.RowKit.Below w.heap.size w w') := by
  have := ev_ok (K := K) hT hany d f g h w lk xs vals _ h' H hv he
  refine this.2.mono ?_
  rintro e w' ⟨v, g', rfl, h1, _, _, _, hk, _⟩
  simp only [VRel, CRel, SRel] at h1
  subst h1
  exact ⟨rfl, hk.os, hk.tape, hk.output, hk.size, fun k hk' => hk.block k hk' fun ⟨l, _, hl, _⟩ => hn l hl⟩
end Go.AM
