/- The abstract machine: regions whose order is open: what the model does. Conditions: none. -/
import Derived.Test.YtgcgbcdgbfeaaaaAmDraw3
set_option linter.unusedVariables false
set_option linter.unusedSimpArgs false
namespace Go.AM
section
variable {P : Program} {g : G} {h : List AO} {w : World} {W : Nat → Prop} {w0 : World} {lock : Nat}
/-- A reserved block is born. -/
theorem HSt.born (H : HSt W w0 lock g h w) {l : Nat} (hl : h[l]? = some .dead) (e : TypeId) (cs : List SV) (C : Array Value) (hb : g.blk l = w.heap.size) (hof : g.off l = 0) (hsz : g.siz l = C.size)
    (hle : cs.length ≤ C.size) (hc : ∀ (i : Nat) (x : SV), cs[i]? = some x → ∃ v : Value, C[i]? = some v ∧ SRel g h.length x v) :
    HSt W w0 lock g (h.set l (.rw e cs)) (w.alloc (.cells C e)) := by
  have Hr : HRel g h (w.alloc (.cells C e)) := H.rel.world fun l hl => Go.RowKit.Below.heap_alloc _ _ _ (H.rel.lt hl)
  have hlt : l < h.length := (List.getElem?_eq_some_iff.1 hl).1
  have hold : ∀ i q, i ≠ l → (h.set l (.rw e cs))[i]? = some q → h[i]? = some q := fun i q hi hq => by rwa [List.getElem?_set_ne (Ne.symm hi)] at hq
  have hne : ∀ i, i ≠ l → isLive (h.set l (.rw e cs)) i → g.blk i ≠ g.blk l := fun i hi ⟨q, hq, hv⟩ => by
    have := H.rel.lt ⟨q, hold i q hi hq, hv⟩
    omega
  refine ⟨⟨?_, ?_⟩, H.keep.alloc _, ?_⟩
  · intro i q hq
    rw [List.length_set]
    by_cases hi : i = l
    · subst hi
      rw [List.getElem?_set_self hlt] at hq
      obtain rfl := Option.some.inj hq
      refine ⟨C, ?_, by rw [hof, hsz]; omega, by rw [hsz]; exact hle, fun i x hx => ?_⟩
      · rw [hb]
        show (w.heap.push _)[w.heap.size]? = _
        simp
      · obtain ⟨v, h1, h2⟩ := hc i x hx
        exact ⟨v, by rw [hof, Nat.zero_add]; exact h1, h2⟩
    · exact Hr.obj i q (hold i q hi hq)
  · intro i j hij hi hj
    by_cases h1 : i = l
    · subst h1
      exact fun q => hne j (Ne.symm hij) hj q.symm
    · by_cases h2 : j = l
      · subst h2; exact hne i h1 hi.live
      · obtain ⟨q, hq, hv⟩ := hi
        obtain ⟨q', hq', hv'⟩ := hj
        exact H.rel.excl i j hij ⟨q, hold i q h1 hq, hv⟩ ⟨q', hold j q' h2 hq', hv'⟩
  · intro i hi hr
    by_cases h1 : i = l
    · subst h1; right; rw [hb]; exact H.keep.size
    · obtain ⟨q, hq, hv⟩ := hr
      exact H.own i hi ⟨q, hold i q h1 hq, hv⟩
/-- What an allocation does. -/
theorem allocA_sound {o : Oper} {e : List AV} {a : Act} {n : Nat} (hE : ERel g n e a.tmps) {mk : Nat → AV} {ao : AO} (hr : allocA P o e = some (mk, ao)) :
    ∃ (t : TypeId) (z : List SV) (C : Array Value) (val : Nat → Value), ao = .rw t z ∧ (∀ (g : G) (n l b : Nat), l < n → g.blk l = b → g.off l = 0 → g.siz l = C.size → VRel g n (mk l) (val b)) ∧
      (∀ w, (execOp a.eval o).run P w = .ok (.value (val w.heap.size)) (w.alloc (.cells C t))) ∧
      z.length ≤ C.size ∧ ∀ (i : Nat) (x : SV), z[i]? = some x → ∃ v : Value, C[i]? = some v ∧ SRel g n x v := by
  unfold allocA at hr
  split at hr
  · rename_i t ho
    obtain ⟨z, hz, hr⟩ := Option.map_eq_some_iff.1 hr
    obtain ⟨rfl, rfl⟩ := Prod.mk.inj hr
    obtain ⟨zv, h1, h2⟩ := zero_sound (P := P) (g := g) (n := n) hz
    have hl := SRelL.length h2
    simp only [Array.length_toList] at hl
    refine ⟨t, z, zv.cells, fun b => .pointer (some ⟨b, 0, none⟩), rfl, fun g n l b h1 h2 h3 h4 => ?_, fun w => ?_, by omega, fun i x hx => ?_⟩
    · simp only [VRel, CRel, SRel]; exact ⟨h1, by simp [h2, h3]⟩
    · simp [execOp, ho, Instr.alloc, h1, newVar, newRow]
    · obtain ⟨v, p1, p2⟩ := SRelL.get h2 i x hx
      exact ⟨v, by rw [← p1]; simp, p2⟩
  · rename_i t x ho
    split at hr
    · rename_i c hc
      obtain ⟨rfl, rfl⟩ := Prod.mk.inj (Option.some.inj hr)
      have hx := aeval_rel hE x
      rw [hc] at hx
      have h2 : SRelL g n c.cells (a.eval x).cells.toList := CRel.cells hx
      have hl := SRelL.length h2
      simp only [Array.length_toList] at hl
      refine ⟨t, c.cells, (a.eval x).cells, fun b => .pointer (some ⟨b, 0, none⟩), rfl, fun g n l b h1 h2 h3 h4 => ?_, fun w => ?_, by omega, fun i y hy => ?_⟩
      · simp only [VRel, CRel, SRel]; exact ⟨h1, by simp [h2, h3]⟩
      · simp [execOp, ho, Instr.box, newVar, newRow]
      · obtain ⟨v, p1, p2⟩ := SRelL.get h2 i y hy
        exact ⟨v, by rw [← p1]; simp, p2⟩
    · cases hr
  · rename_i t m parts ho
    have ev := fun x => aeval_rel hE x
    split at hr
    · rename_i el hu
      split at hr
      · rename_i s z hs hz
        split at hr
        · rename_i hc
          obtain ⟨hbig, hzl, hs0⟩ := hc
          obtain ⟨cs, hcs, hr⟩ := Option.map_eq_some_iff.1 hr
          obtain ⟨rfl, rfl⟩ := Prod.mk.inj hr
          obtain ⟨zv, hzv, hzr⟩ := zero_sound (P := P) (g := g) (n := n) hz
          have hZ := zeros_rel (m := m) hzr hzl hs0
          obtain ⟨C, hC, hrel⟩ := fill_sound (g := g) (n := n) (place := fun i => some (i * s, s)) (parts := parts.toList.map fun p => (p.1, aeval e p.2)) (vps := (parts.map fun p => (p.1, a.eval p.2)).toList) (by simp) (fun i p hp => by
            simp only [List.getElem?_map, Option.map_eq_some_iff] at hp
            obtain ⟨q, hq, rfl⟩ := hp
            refine ⟨(q.1, a.eval q.2), ?_, rfl, ev _⟩
            rw [Array.toList_map, List.getElem?_map, hq]; rfl) hZ hcs
          have hlen := SRelL.length hrel
          simp only [Array.length_toList] at hlen
          have hfl : ∀ {place : Nat → Option (Nat × Nat)} (ps : List (Nat × AV)) (c d : List SV), fillA place c ps = some d → d.length = c.length := by
            intro place ps
            induction ps with
            | nil => intro c d hd; obtain rfl := Option.some.inj hd; rfl
            | cons p ps ih =>
              obtain ⟨i, x⟩ := p
              intro c d hd
              cases x with
              | v x =>
                simp only [fillA] at hd
                split at hd
                · split at hd
                  · rename_i hq
                    rw [ih _ _ hd, splice_length (by omega)]
                  · cases hd
                · cases hd
              | und => simp [fillA] at hd
              | sk => simp [fillA] at hd
              | tup _ => simp [fillA] at hd
          have hcl : cs.length = m * s := by rw [hfl _ _ _ hcs]; simp [hzl]
          refine ⟨el, cs, C, fun b => .slice (some ⟨b, 0, none⟩) m m, rfl, fun g n l b h1 h2 h3 h4 => ?_, fun w => ?_, by omega, fun i q hq => by
            obtain ⟨v, p1, p2⟩ := SRelL.get hrel i q hq
            exact ⟨v, by rw [← p1, Array.getElem?_toList], p2⟩⟩
          · simp only [VRel, CRel, SRel]
            refine ⟨h1, m, 0, none, Nat.le_refl _, ?_, ?_, ?_⟩
            · rw [h4]; omega
            · right; exact ⟨by omega, rfl⟩
            · simp [h2]
          · have hrun : (Instr.buildSlice t m (parts.map fun p => (p.1, a.eval p.2))).run P w = .ok (.slice (some ⟨w.heap.size, 0, none⟩) m m) (w.alloc (.cells C el)) := by
              simp only [Instr.buildSlice, Sem.run_bind, run_underlying hu, Result.andThen_ok, run_sizeOf' hs]
              rw [if_neg (by omega)]
              by_cases hk : m * s = 0
              · have hn : m = 0 := by
                  rcases Nat.mul_eq_zero.1 hk with h | h
                  · exact h
                  · exact absurd h hs0
                subst hn
                have hr0 : ∀ f : Nat → Value, Array.map f (Array.range 0) = #[] := fun f => Array.eq_empty_of_size_eq_zero (by simp)
                simp only [Nat.zero_mul, hr0, Array.toList_map] at hC
                simp [hC, hr0, newRow]
              · rw [if_neg hk]
                simp only [Array.toList_map] at hC
                simp [hzv, hC, newRow]
            simp only [execOp, ho, Sem.run_bind]
            rw [hrun]; rfl
        · cases hr
      · cases hr
    · cases hr
  · cases hr
/-- Ghosts of reserved blocks, as one likes. -/
def gU (g : G) (U : Nat → Bool) (u : Nat → Nat × Nat × Nat) : G := ⟨fun i => if U i then (u i).1 else g.blk i, fun i => if U i then (u i).2.1 else g.off i, fun i => if U i then (u i).2.2 else g.siz i⟩
/-- Where a run stands, whatever becomes of the reserved blocks. -/
def FullU (W : Nat → Prop) (w0 : World) (lock n0 : Nat) (g0 : G) (U : Nat → Bool) (e : List AV) (h : List AO) (a : Act) (w : World) : Prop :=
  ∃ g, (∀ u, HSt W w0 lock (gU g U u) h w ∧ GExt n0 g0 (gU g U u) ∧ ERel (gU g U u) h.length e a.tmps) ∧ n0 ≤ h.length ∧ a.defers = []
theorem FullU.full {n0 : Nat} {g0 : G} {U : Nat → Bool} {e : List AV} {a : Act} (H : FullU W w0 lock n0 g0 U e h a w) : Full W w0 lock n0 g0 e h a w := by
  obtain ⟨g, hu, h1, h2⟩ := H
  obtain ⟨k1, k2, k3⟩ := hu fun _ => (0, 0, 0)
  exact ⟨_, k1, k2, h1, k3, h2⟩
theorem FullU.mono {n0 : Nat} {g0 : G} {U U' : Nat → Bool} {e : List AV} {a : Act} (hU : ∀ i, U' i = true → U i = true) (H : FullU W w0 lock n0 g0 U e h a w) : FullU W w0 lock n0 g0 U' e h a w := by
  obtain ⟨g, hu, h1, h2⟩ := H
  refine ⟨g, fun u => ?_, h1, h2⟩
  have : gU g U' u = gU g U fun i => if U' i then u i else (g.blk i, g.off i, g.siz i) := by
    unfold gU
    congr 1 <;> funext i <;> by_cases h : U' i = true <;> simp [h, hU] <;> split <;> rfl
  rw [this]; exact hu _
variable {E : Ext} {base n0 : Nat} {g0 : G} {ops : Array Oper} {wc : List Nat} {U : Nat → Bool}
/-- An operation that turns neither heap nor world. -/
theorem FullU.put {e : List AV} {a : Act} (H : FullU W w0 lock n0 g0 U e h a w) (d : Option Tmp) {r : AV} {v : Value} (hv : ∀ g, ERel g h.length e a.tmps → HRel g h w → VRel g h.length r v) : FullU W w0 lock n0 g0 U (setD e d r) h (a.put d v) w := by
  obtain ⟨g, hu, h1, h2⟩ := H
  exact ⟨g, fun u => ⟨(hu u).1, (hu u).2.1, put_rel (hu u).2.2 _ (hv _ (hu u).2.2 (hu u).1.rel)⟩, h1, put_defers h2 _ _⟩
theorem opM_sound {o : Oper} {e : List AV} {a : Act} (H : FullU W w0 lock n0 g0 U e h a w) {r : AV} {h0 : List AO} (hh : ∀ g, HRel g h w → HRel g h0 w) (hl : h0.length = h.length) (hr : pureA P o e h0 = some r)
    {next : Act → World → Prop} {Q : Exit → Act → World → Prop} (hn : ∀ a', FullU W w0 lock n0 g0 U (setD e o.dst r) h a' w → next a' w) : o.wp P a w next Q := by
  have H' := H
  obtain ⟨g, hu, h1, h2⟩ := H'
  obtain ⟨k1, k2, k3⟩ := hu fun _ => (0, 0, 0)
  obtain ⟨v, r1, r2⟩ := pure_sound (hh _ k1.rel) (by rw [hl]; exact k3) hr
  unfold Oper.wp
  rw [r1 w (Keeps.refl _ _)]
  refine hn _ (H.put _ fun g' hE hR => ?_)
  obtain ⟨v', q1, q2⟩ := pure_sound (hh _ hR) (by rw [hl]; exact hE) hr
  have := (r1 w (Keeps.refl _ _)).symm.trans (q1 w (Keeps.refl _ _))
  simp only [Result.ok.injEq, Next.value.injEq, and_true] at this
  rw [this, ← hl]; exact q2
theorem HRel.mask (o : Oper) : ∀ (al : List Nat) (k : Nat) {h : List AO}, HRel g h w → HRel g (maskH o base k al h) w
  | [], k, h, H => H
  | i :: al, k, h, H => by
    simp only [maskH]
    split
    · exact HRel.mask o al _ H
    · exact (HRel.mask o al _ H).kill _
theorem opA_sound {o : Oper} {e : List AV} {a : Act} {l : Nat} (hUl : U l = true) (hd : h[l]? = some .dead) (hn0 : n0 ≤ l) (H : FullU W w0 lock n0 g0 U e h a w) {mk : Nat → AV} {ao : AO} (hr : allocA P o e = some (mk, ao))
    {next : Act → World → Prop} {Q : Exit → Act → World → Prop} (hn : ∀ a' w', FullU W w0 lock n0 g0 (fun i => U i && i != l) (setD e o.dst (mk l)) (h.set l ao) a' w' → next a' w') : o.wp P a w next Q := by
  obtain ⟨g, hu, h1, h2⟩ := H
  have hlt : l < h.length := (List.getElem?_eq_some_iff.1 hd).1
  obtain ⟨t, z, C, val, rfl, _, r1, _, _⟩ := allocA_sound (hu fun _ => (0, 0, 0)).2.2 hr
  unfold Oper.wp
  rw [r1 w]
  refine hn _ _ ⟨g.upd l w.heap.size 0 C.size, fun u => ?_, by simpa using h1, put_defers h2 _ _⟩
  have hg : gU (g.upd l w.heap.size 0 C.size) (fun i => U i && i != l) u = gU g U fun i => if i = l then (w.heap.size, 0, C.size) else u i := by
    unfold gU G.upd
    congr 1 <;> funext i <;> by_cases h : i = l <;> simp [h, hUl]
  rw [hg]
  obtain ⟨k1, k2, k3⟩ := hu fun i => if i = l then (w.heap.size, 0, C.size) else u i
  obtain ⟨t', z', C', val', e1, hmk, r2, e2, e3⟩ := allocA_sound k3 hr
  obtain ⟨rfl, rfl⟩ : t = t' ∧ z = z' := by cases e1; exact ⟨rfl, rfl⟩
  have hr12 := (r1 w).symm.trans (r2 w)
  simp only [Result.ok.injEq, Next.value.injEq] at hr12
  have hC : C = C' := by
    have h3 := congrArg (fun x : World => x.heap[w.heap.size]?) hr12.2
    have h4 : ∀ C : Array Value, (w.alloc (.cells C t)).heap[w.heap.size]? = some (.cells C t (0, 0)) := fun C => by
      show (w.heap.push _)[w.heap.size]? = _
      simp
    rw [h4, h4] at h3
    simpa using h3
  subst hC
  refine ⟨k1.born hd t z C (by simp [gU, hUl]) (by simp [gU, hUl]) (by simp [gU, hUl]) e2 e3, k2, put_rel (by rw [List.length_set]; exact k3) _ ?_⟩
  rw [hr12.1, List.length_set]
  exact hmk _ _ _ _ hlt (by simp [gU, hUl]) (by simp [gU, hUl]) (by simp [gU, hUl])
/-- A quiet operation. -/
theorem opR_sound (hEx : ExtOk P E) {o : Oper} {e : List AV} {a : Act} (H : FullU W w0 lock n0 g0 U e h a w) {r : AV} {h0 : List AO} (hh : ∀ g, HRel g h w → HRel g h0 w) (hl : h0.length = h.length) (hr : quietA P E o e h0 = some r)
    {next : Act → World → Prop} {Q : Exit → Act → World → Prop} (hn : ∀ a' w', FullU W w0 lock n0 g0 U (setD e o.dst r) h a' w' → next a' w') : o.wp P a w next Q := by
  unfold quietA at hr
  split at hr
  · rename_i r' hp
    obtain rfl := Option.some.inj hr
    exact opM_sound H hh hl hp fun a' H' => hn a' w H'
  · split at hr
    · rename_i f xs hc
      split at hr
      · rename_i r' h' hF
        split at hr
        · rename_i hcond
          obtain rfl := Option.some.inj hr
          obtain ⟨v, hv⟩ := Option.isSome_iff_exists.1 hcond.2
          have H' := H
          obtain ⟨g, hu, h1, h2⟩ := H'
          obtain ⟨k1, k2, k3⟩ := hu fun _ => (0, 0, 0)
          obtain ⟨vals, hvl, hrun⟩ := callee_rel (P := P) k3 hc
          obtain ⟨c1, c2⟩ := hEx f _ h0 w h0.length xs vals r' h' (hh _ k1.rel) (by rw [hl]; exact hvl) hF
          unfold Oper.wp
          rw [hrun w, c1]
          refine c2.mono ?_
          rintro ex w' ⟨v', g', rfl, q1, q2, q3, q4, q5, q6⟩
          obtain rfl := freeA_rel hv q1
          have hno : ∀ b, ¬ ∃ l, h0.length ≤ l ∧ isRW h0 l ∧ (gU g U fun _ => (0, 0, 0)).blk l = b := fun b ⟨l, a1, a2, _⟩ => absurd (isLive_lt a2.live) (by omega)
          have hlater : Later w w' := ⟨q5.os, q5.tape, q5.output, q5.size, fun k hk _ => q5.block k hk (hno k)⟩
          have H2 : FullU W w0 lock n0 g0 U e h a w' := ⟨g, fun u => ⟨(hu u).1.later hlater, (hu u).2⟩, h1, h2⟩
          exact hn _ _ (H2.put _ fun g' hE hR => freeA_mk hv)
        · cases hr
      · cases hr
    · cases hr
end
end Go.AM
