/- The abstract machine: a slice of whole numbers, sorted: the kit's contract of slices.Sort, told of abstract heaps. Conditions: none. -/
import Derived.Test.YtjhhjmngjmflaaaAmEv
import Derived.Shelf.Sort.Plain
import Derived.Shelf.Slices.In.SortNone
import Derived.Shelf.Slices.CompactI
set_option linter.unusedVariables false
set_option linter.unusedSimpArgs false
namespace Go.AM
open Go.Sort Go.Shelf Go.Proofs
theorem ev_kn {P : Program} {T : Tab} {K d : Nat} {f : FuncId} {F : List CV → Nat → List AO → Option (AV × List AO)} (hT : T.at f = some (.known F)) (xs : List CV) (lk : Nat) (h : List AO) : ev P T K (d + 1) f xs lk h = F xs lk h := by simp only [ev, hT]
def intsOf : List SV → Option (List Int)
  | [] => some []
  | .int .i64 n :: xs => (intsOf xs).map (n :: ·)
  | _ :: _ => none
theorem intsOf_eq : ∀ (cs : List SV) (zs : List Int), intsOf cs = some zs → cs = zs.map (SV.int .i64)
  | [], zs, h => by obtain rfl := Option.some.inj h; rfl
  | x :: xs, zs, h => by
    cases x with
    | int k n =>
      cases k <;> simp only [intsOf] at h <;> try cases h
      obtain ⟨ys, h1, rfl⟩ := Option.map_eq_some_iff.1 h
      rw [List.map_cons, ← intsOf_eq xs ys h1]
    | _ => simp only [intsOf] at h; cases h
def sortL (zs : List Int) : List Int := zs.mergeSort fun x y => decide (x ≤ y)
/-- What slices.Sort does to a block that is the slice. -/
def sortF (xs : List CV) (lk : Nat) (h : List AO) : Option (AV × List AO) := match xs with
  | [.sc .nils] => some (.tup [], h)
  | [.sc (.sl l o n s)] => if n = 0 then some (.tup [], h) else match h[l]? with
    | some (.rw e cs) => match intsOf cs with
      | some zs => if o = 0 ∧ s = 1 ∧ n = zs.length ∧ 0 < n ∧ n < 4611686018427387904 ∧ lk ≤ l then some (.tup [], h.set l (.rw e ((sortL zs).map (SV.int .i64)))) else none
      | none => none
    | _ => none
  | _ => none
theorem put_row {g : G} {h : List AO} {w : World} (H : HRel g h w) {l : Nat} {e : TypeId} {cs : List SV} (hl : h[l]? = some (.rw e cs)) (ys : List Int) (hy : ys.length = cs.length) (k : Nat) (os : Array Obj) (lock : Nat) (hlk : lock ≤ l) :
    HRel g (h.set l (.rw e (ys.map (SV.int .i64)))) (grow (putRow (Value.int .i64) (Sort.ahead w k) (g.blk l) (g.off l + 0) ys.toArray) os) ∧
      Keeps (fun b => ∃ l', lock ≤ l' ∧ isRW h l' ∧ g.blk l' = b) w (grow (putRow (Value.int .i64) (Sort.ahead w k) (g.blk l) (g.off l + 0) ys.toArray) os) := by
  obtain ⟨C, hC, hC1, hC2, hC3⟩ := H.obj l _ hl
  have hblk : g.blk l < w.heap.size := (Array.getElem?_eq_some_iff.1 hC).1
  have hother : ∀ j, j ≠ g.blk l → (putRow (Value.int .i64) (Sort.ahead w k) (g.blk l) (g.off l + 0) ys.toArray).heap[j]? = w.heap[j]? := fun j hj => by
    simp [putRow, mapBlock, Sort.ahead, Array.getElem?_modify, Ne.symm hj]
  have hself : (putRow (Value.int .i64) (Sort.ahead w k) (g.blk l) (g.off l + 0) ys.toArray).heap[g.blk l]? = some (.cells (putCells (Value.int .i64) (g.off l + 0) ys.toArray C) e (0, 0)) := by
    simp [putRow, mapBlock, Sort.ahead, Array.getElem?_modify, hC, onCells]
  have H1 : HRel g (h.set l (.rw e (ys.map (SV.int .i64)))) (putRow (Value.int .i64) (Sort.ahead w k) (g.blk l) (g.off l + 0) ys.toArray) := by
    refine H.change hl rfl hother ⟨_, hself, by simp [putCells, hC1], by simpa [hy] using hC2, fun i x hx => ?_⟩
    have hi : i < ys.length := by
      have := (List.getElem?_eq_some_iff.1 hx).1
      simpa using this
    obtain rfl : SV.int .i64 ys[i] = x := by simpa [hi] using hx
    refine ⟨_, ?_, rfl⟩
    have hC4 : g.off l + i < C.size := by omega
    simp only [putCells, Array.getElem?_mapIdx, Array.getElem?_eq_getElem hC4, Option.map_some]
    rw [if_pos ⟨by omega, by simp; omega⟩, show g.off l + i - (g.off l + 0) = i by omega]
    simp [hi]
  refine ⟨H1.world fun j hj => heap_grow_old _ _ (H1.lt hj), ⟨rfl, rfl, rfl, by simp, fun j hj hn => ?_⟩⟩
  rw [heap_grow_old _ _ (by simpa using hj)]
  exact hother j fun e => hn ⟨l, hlk, ⟨_, hl, rfl⟩, e.symm⟩
theorem set_RW {h : List AO} {l : Nat} {e : TypeId} {cs ds : List SV} (hl : h[l]? = some (.rw e cs)) {j : Nat} (hj : isRW (h.set l (.rw e ds)) j) : isRW h j := by
  obtain ⟨q, hq, hr⟩ := hj
  rw [List.getElem?_set] at hq
  split at hq
  · rename_i e; subst e; exact ⟨_, hl, rfl⟩
  · exact ⟨q, hq, hr⟩
theorem holds_of {g : G} {h : List AO} {w : World} (H : HRel g h w) {l : Nat} {e : TypeId} {zs : List Int} (hl : h[l]? = some (.rw e (zs.map (SV.int .i64)))) : Holds (Value.int .i64) w (g.blk l) (g.off l + 0) zs.toArray := by
  obtain ⟨C, hC, hC1, hC2, hC3⟩ := H.obj l _ hl
  intro j hj
  have hj' : j < zs.length := by simpa using hj
  obtain ⟨v, e1, e2⟩ := hC3 j (.int .i64 zs[j]) (by simp [hj'])
  obtain rfl : v = .int .i64 zs[j] := e2
  refine ⟨?_, by simp [World.frozen?, hC]⟩
  simp [World.cell?, hC, e1, hj']
theorem sort_ok {P : Program} {ρ : Ren} (Ly : Lays.n189 P ρ) (hen : ∀ args w, (callFunc (ρ.f 189) args).run P w = .ok (.enter (ρ.f 189) args) w) : CallOk P (ρ.f 189) sortF := by
  intro g h w lock xs vals r h' H hv hr
  refine ⟨hen _ _, ?_⟩
  match xs, hr with
  | [.sc .nils], hr =>
    obtain ⟨rfl, rfl⟩ := Prod.mk.inj (Option.some.inj hr)
    obtain ⟨v, rfl, hvv⟩ : ∃ v, vals = [v] ∧ v = .slice none 0 0 := by
      match vals, hv with
      | [v], hv => exact ⟨v, rfl, hv.1⟩
    subst hvv
    refine (Any.slices_Sort_int_none Ly none 0 w).mono ?_
    rintro e w' ⟨rfl, hw⟩
    subst hw
    exact ⟨_, g, rfl, ⟨#[], rfl, trivial⟩, H, GExt.refl _ _, Nat.le_refl _, Keeps.refl _ _, fun l a b => .inl ⟨l, a, b, rfl⟩⟩
  | [.sc (.sl l o n s)], hr =>
    simp only [sortF] at hr
    split at hr
    · rename_i hn0
      subst hn0
      obtain ⟨rfl, rfl⟩ := Prod.mk.inj (Option.some.inj hr)
      obtain ⟨v, rfl, hvv⟩ : ∃ v, vals = [v] ∧ SRel g h.length (.sl l o 0 s) v := by
        match vals, hv with
        | [v], hv => exact ⟨v, rfl, hv.1⟩
      obtain ⟨hll, cap, o', sp, h1, h2, h3, rfl⟩ := hvv
      refine (Any.slices_Sort_int_none Ly _ cap w).mono ?_
      rintro e w' ⟨rfl, hw⟩
      subst hw
      exact ⟨_, g, rfl, ⟨#[], rfl, trivial⟩, H, GExt.refl _ _, Nat.le_refl _, Keeps.refl _ _, fun l a b => .inl ⟨l, a, b, rfl⟩⟩
    split at hr
    · rename_i e cs hl
      split at hr
      · rename_i zs hzs
        split at hr
        · rename_i hc
          obtain ⟨rfl, rfl, rfl, hn0, hn1, hlk⟩ := hc
          obtain ⟨rfl, rfl⟩ := Prod.mk.inj (Option.some.inj hr)
          obtain rfl := intsOf_eq cs zs hzs
          obtain ⟨v, rfl, hvv⟩ : ∃ v, vals = [v] ∧ SRel g h.length (.sl l 0 zs.length 1) v := by
            match vals, hv with
            | [v], hv => exact ⟨v, rfl, hv.1⟩
          obtain ⟨hll, cap, o', sp, h1, h2, h3, rfl⟩ := hvv
          obtain ⟨rfl, rfl⟩ : o' = g.off l + 0 ∧ sp = none := by
            rcases h3 with h3 | h3
            · omega
            · exact h3
          obtain ⟨C, hC, hC1, hC2, hC3⟩ := H.obj l _ hl
          have hblk : g.blk l < w.heap.size := (Array.getElem?_eq_some_iff.1 hC).1
          have hH := holds_of H hl
          refine (Any.slices_Sort_int Ly _ _ cap zs w hH hblk hn1).mono ?_
          rintro e' w' ⟨rfl, k, os, rfl⟩
          have hsl : (sortL zs).length = zs.length := List.length_mergeSort zs
          obtain ⟨p1, p2⟩ := put_row H hl (sortL zs) (by simp [hsl]) k os lock hlk
          refine ⟨_, g, rfl, ⟨#[], rfl, trivial⟩, ?_, GExt.refl _ _, by simp, p2, fun j a b => .inl ⟨j, a, set_RW hl b, rfl⟩⟩
          exact p1
        · cases hr
      · cases hr
    · cases hr
end Go.AM
