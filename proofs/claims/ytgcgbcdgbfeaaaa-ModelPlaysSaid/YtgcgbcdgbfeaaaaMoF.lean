/- Monitors' model: maps copied, and held against each other: contracts, told of abstract heaps. Conditions: none. -/
import Derived.Test.YtgcgbcdgbfeaaaaMoE
import Derived.Test.YtgcgbcdgbfeaaaaMoH
import Derived.Test.YtgcgbcdgbfeaaaaMoV
set_option linter.unusedVariables false
set_option linter.unusedSimpArgs false
set_option maxRecDepth 100000
namespace Go.Proofs
open Go.RowKit Go.Maps Go.Sort Go.Shelf
def Try.cl90_ren : Go.Shelf.Ren := ⟨fun | 5 => 90 | 7 => 118 | n => n, fun | 23 => 123 | 25 => 164 | 3 => 3 | 20 => 20 | 4 => 4 | n => n, fun n => n⟩
theorem Try.cl90 : Go.Proofs.SlLaysW.n5 Try.prog Try.cl90_ren := {
  mixed := by kernel_rfl
  f5 := ⟨Try.f90.name, by decide, Try.func90.trans (congrArg some (by kernel_rfl))⟩
  f7 := Try.func118.trans (congrArg some (by kernel_rfl))
  t4 := Try.underlying4
  a4 := Try.isAgg4
  z4 := Try.sizeOf4
  v4 := Try.zeroValue4
  t20 := Try.underlying20
  a20 := Try.isAgg20
  z20 := Try.sizeOf20
  v20 := Try.zeroValue20
  t23 := Try.underlying123
  a23 := Try.isAgg123
  z23 := Try.sizeOf123
  v23 := Try.zeroValue123 }
def Try.cl91_ren : Go.Shelf.Ren := ⟨fun | 5 => 91 | 7 => 118 | n => n, fun | 23 => 124 | 25 => 164 | 3 => 156 | 20 => 20 | 4 => 4 | n => n, fun n => n⟩
theorem Try.cl91 : Go.Proofs.SlLaysW.n5 Try.prog Try.cl91_ren := {
  mixed := by kernel_rfl
  f5 := ⟨Try.f91.name, by decide, Try.func91.trans (congrArg some (by kernel_rfl))⟩
  f7 := Try.func118.trans (congrArg some (by kernel_rfl))
  t4 := Try.underlying4
  a4 := Try.isAgg4
  z4 := Try.sizeOf4
  v4 := Try.zeroValue4
  t20 := Try.underlying20
  a20 := Try.isAgg20
  z20 := Try.sizeOf20
  v20 := Try.zeroValue20
  t23 := Try.underlying124
  a23 := Try.isAgg124
  z23 := Try.sizeOf124
  v23 := Try.zeroValue124 }
end Go.Proofs
namespace Go.AM
open Go.Proofs Go.RowKit Go.Maps Go.WideElems
/-- What a copy of a map comes to. -/
def clF (xs : List CV) (lk : Nat) (h : List AO) : Option (AV × List AO) := match xs with
  | [.sc (.mp l)] => match h[l]? with
    | some (.map es) => some (.v (.sc (.mp h.length)), h ++ [.map es])
    | _ => none
  | _ => none
theorem cl_of {f : FuncId} (hc : ∀ (b : Nat) (es : Array MapEntry) (clock : Nat) (w : World), w.heap[b]? = some (.map es clock) → Calls Try.prog f #[.map (some b)] w fun e w' => e = .returned (.map (some w.heap.size)) ∧ w' = w.alloc (.map es clock))
    (hen : ∀ args w, (callFunc f args).run Try.prog w = .ok (.enter f args) w) : CallOk Try.prog f clF := by
  intro g h w lock xs vals r h' H hv hr
  refine ⟨hen _ _, ?_⟩
  match xs, hr with
  | [.sc (.mp l)], hr =>
    simp only [clF] at hr
    split at hr
    · rename_i es hes
      obtain ⟨rfl, rfl⟩ := Prod.mk.inj (Option.some.inj hr)
      have hlt : l < h.length := (List.getElem?_eq_some_iff.1 hes).1
      obtain rfl : vals = [.map (some (g.blk l))] := by
        match vals, hv with
        | [a], hv =>
          have h1 := hv.1
          simp only [CRel, SRel] at h1
          rw [h1.2]
      obtain ⟨ms, t, h1, h2, h3⟩ := H.obj l _ hes
      refine (hc _ ms t w h1).mono ?_
      rintro e w' ⟨rfl, rfl⟩
      have hK : ∀ k, k < w.heap.size → (w.alloc (.map ms t)).heap[k]? = w.heap[k]? := fun k hk => Below.heap_alloc _ _ _ hk
      have H' : HRel g h (w.alloc (.map ms t)) := H.world fun j hj => hK _ (H.lt hj)
      have hext := g.upd_ext h.length w.heap.size 0 0
      refine ⟨_, g.upd h.length w.heap.size 0 0, rfl, ?_, ?_, hext, by simp, ⟨rfl, rfl, rfl, by simp, fun k hk _ => hK k hk⟩, ?_⟩
      · show h.length < _ ∧ _
        exact ⟨by simp, by simp [G.upd]⟩
      · refine H'.push _ _ _ _ (fun j hj e => ?_) ?_
        · have := H.lt hj
          omega
        · obtain ⟨ms', t', h1', h2', h3'⟩ := ORel.mono (Nat.le_succ _) hext hlt (H'.obj l _ hes)
          have hb : (g.upd h.length w.heap.size 0 0).blk l = g.blk l := (hext l hlt).1
          rw [hb, hK _ ((Array.getElem?_eq_some_iff.1 h1).1), h1] at h1'
          have he := Option.some.inj h1'
          injection he with he1 he2
          subst he1
          subst he2
          refine ⟨ms, t, ?_, h2', h3'⟩
          have : (g.upd h.length w.heap.size 0 0).blk h.length = w.heap.size := by simp [G.upd]
          rw [this]
          exact World.alloc_heap_new w _
      · intro j hj1 hj2
        rcases isRW_append hj2 with hj | ⟨rfl, _⟩
        · have hlt := isLive_lt hj.live
          exact .inl ⟨j, hj1, hj, ((hext j hlt).1).symm⟩
        · refine .inr ?_
          show _ ≤ (g.upd _ _ 0 0).blk _
          simp [G.upd]
    · cases hr
/-- The entries of such a map, one by one. -/
theorem ents_rel {α : Type} {enc : α → CV} {val : α → Value} (hval : ∀ (g : G) (n : Nat) (a : α) (v : Value), CRel g n (enc a) v → v = val a) {g : G} {n : Nat} : ∀ (M : List (Pk × α)) (ms : List MapEntry), MRel g n (entsP enc M) ms → ms.map (fun m => (m.key, m.val)) = M.map (fun x => (pkV x.1, val x.2))
  | [], [], _ => rfl
  | [], _ :: _, h => by simp [entsP, MRel] at h
  | _ :: _, [], h => by simp [entsP, MRel] at h
  | (k, a) :: M, m :: ms, h => by
    obtain ⟨⟨hk, hv⟩, ht⟩ := h
    rw [List.map_cons, List.map_cons, ents_rel hval M ms ht, hval _ _ _ _ hv]
    obtain ⟨vs, e, hvs⟩ := hk
    obtain ⟨vl⟩ := vs
    have hvl : vl = [.int .i64 k.1, .int .i64 k.2] := by
      match vl, hvs with
      | [x, y], hvs => obtain ⟨rfl, rfl, _⟩ := hvs; rfl
    subst hvl
    rw [e]; rfl
/-- Two such maps with the same entries, as the kit reads them. -/
theorem own2_of {α : Type} {enc : α → CV} {val : α → Value} (hval : ∀ (g : G) (n : Nat) (a : α) (v : Value), CRel g n (enc a) v → v = val a) {R : Value → Option (DataW Unit × List MemPlace)} (hR : ∀ a, ∃ y, R (val a) = some y) {g : G} {h : List AO} {w : World} (H : HRel g h w) {M : List (Pk × α)} (hw : ∀ x ∈ M, (Lit.int .i64 x.1.1).wf = true ∧ (Lit.int .i64 x.1.2).wf = true) (hlen : M.length ≤ 1000) :
    ∀ l, h[l]? = some (.map (entsP enc M)) → w.ownsMap Try.prog 164 R (g.blk l) 1000 (.map ((M.map fun x => ((((keyOf Try.prog 164 (pkV x.1)).bind fun key => (R (val x.2)).map fun y => (key, y.1)) : Option (Lit × DataW Unit)).getD (.bool false, .nil))).foldr DataW.insert [])) := by
  intro l hl
  have T := Try.pairT
  obtain ⟨ms, t, h1, h2, h3⟩ := H.obj l _ hl
  have r1 := ents_rel hval M ms.toList h2
  have hsz : ms.size = M.length := by
    have := congrArg List.length r1
    simpa using this
  refine ⟨ms, t, h1, ⟨by rw [hsz]; unfold maxLen; omega, h3, fun m hm => ?_⟩, by omega, ?_⟩
  · have : (m.key, m.val) ∈ M.map (fun x => (pkV x.1, val x.2)) := by rw [← r1]; exact List.mem_map.2 ⟨m, hm, rfl⟩
    obtain ⟨x, hx, e⟩ := List.mem_map.1 this
    obtain ⟨e1, e2⟩ := Prod.mk.inj e
    obtain ⟨kl, hkl⟩ := T.mk' (x := x.1) (hw x hx).1 (hw x hx).2
    obtain ⟨y, hy⟩ := hR x.2
    obtain ⟨mk, mv, mb⟩ := m
    simp only at e1 e2
    subst e1
    subst e2
    exact ⟨_, rd_mk hkl hy⟩
  · congr 1
    congr 1
    have : ms.toList.map (rg Try.prog 164 R) = (ms.toList.map (fun m => (m.key, m.val))).map (fun p => ((((keyOf Try.prog 164 p.1).bind fun key => (R p.2).map fun y => (key, y.1)) : Option (Lit × DataW Unit)).getD (.bool false, .nil))) := by
      rw [List.map_map]; rfl
    rw [this, r1, List.map_map]; rfl
open Classical in
/-- What maps that have the same entries are held against each other. -/
noncomputable def eqF {α : Type} (enc : α → CV) (xs : List CV) (lk : Nat) (h : List AO) : Option (AV × List AO) := match xs with
  | [.sc (.mp l1), .sc (.mp l2)] => if ∃ M : List (Pk × α), h[l1]? = some (.map (entsP enc M)) ∧ h[l2]? = some (.map (entsP enc M)) ∧ (∀ x ∈ M, (Lit.int .i64 x.1.1).wf = true ∧ (Lit.int .i64 x.1.2).wf = true) ∧ M.length ≤ 1000 then some (.v (.sc (.bool true)), h) else none
  | _ => none
theorem eq_of {f : FuncId} {α : Type} {enc : α → CV} {val : α → Value} (hval : ∀ (g : G) (n : Nat) (a : α) (v : Value), CRel g n (enc a) v → v = val a) {R : Value → Option (DataW Unit × List MemPlace)} (hR : ∀ a, ∃ y, R (val a) = some y)
    (hc : ∀ (b1 b2 : Nat) (D0 : DataW Unit) (w : World), w.ownsMap Try.prog 164 R b1 1000 D0 → w.ownsMap Try.prog 164 R b2 1000 D0 → Calls Try.prog f #[.map (some b1), .map (some b2)] w fun e w' => e = .returned (.bool true) ∧ w.grownBy w' none)
    (hen : ∀ args w, (callFunc f args).run Try.prog w = .ok (.enter f args) w) : CallOk Try.prog f (eqF enc) := by
  intro g h w lock xs vals r h' H hv hr
  refine ⟨hen _ _, ?_⟩
  match xs, hr with
  | [.sc (.mp l1), .sc (.mp l2)], hr =>
    simp only [eqF] at hr
    split at hr
    · rename_i hex
      obtain ⟨M, m1, m2, m3, m4⟩ := hex
      obtain ⟨rfl, rfl⟩ := Prod.mk.inj (Option.some.inj hr)
      obtain rfl : vals = [.map (some (g.blk l1)), .map (some (g.blk l2))] := by
        match vals, hv with
        | [a, b], hv =>
          obtain ⟨h1, h2, _⟩ := hv
          simp only [CRel, SRel] at h1 h2
          rw [h1.2, h2.2]
      have O := own2_of hval hR H m3 m4
      refine (hc _ _ _ w (O l1 m1) (O l2 m2)).mono ?_
      rintro e w' ⟨rfl, hg⟩
      have hK : ∀ k, k < w.heap.size → w'.heap[k]? = w.heap[k]? := fun k hk => hg.block k hk (by simp)
      exact ⟨_, g, rfl, rfl, H.world fun j hj => hK _ (H.lt hj), GExt.refl _ _, Nat.le_refl _, ⟨hg.os, hg.tape, hg.output, hg.size, fun k hk _ => hK k hk⟩, fun j hj1 hj2 => .inl ⟨j, hj1, hj2, rfl⟩⟩
    · cases hr
theorem cl90_ok (_ : True) (hen : ∀ args w, (callFunc 90 args).run Try.prog w = .ok (.enter 90 args) w) : CallOk Try.prog 90 clF := cl_of (fun b es clock w hb => AnyW.maps_Clone Try.cl90 b es clock w hb) hen
theorem cl91_ok (_ : True) (hen : ∀ args w, (callFunc 91 args).run Try.prog w = .ok (.enter 91 args) w) : CallOk Try.prog 91 clF := cl_of (fun b es clock w hb => AnyW.maps_Clone Try.cl91 b es clock w hb) hen
theorem eq94_ok (_ : True) (hen : ∀ args w, (callFunc 94 args).run Try.prog w = .ok (.enter 94 args) w) : CallOk Try.prog 94 (eqF intV) :=
  eq_of (val := fun n => Value.int .i64 n) (fun g n a v h => by
    first
      | (have h1 : v = .int .i64 a := h; exact h1)
      | (obtain ⟨vs, e, hvs⟩ := h
         obtain ⟨vl⟩ := vs
         have hvl : vl = [.int .i64 a.cnt, .int .i64 a.why] := by
           match vl, hvs with
           | [x, y], hvs => obtain ⟨rfl, rfl, _⟩ := hvs; rfl
         subst hvl
         exact e)) (fun a => ⟨_, rfl⟩) (R := iR) (fun b1 b2 D0 w h1 h2 => Try.meq94 b1 b2 1000 D0 w h1 h2) hen
theorem eq95_ok (_ : True) (hen : ∀ args w, (callFunc 95 args).run Try.prog w = .ok (.enter 95 args) w) : CallOk Try.prog 95 (eqF LfV.cv) :=
  eq_of (val := fun x => Value.agg #[.int .i64 x.cnt, .int .i64 x.why]) (fun g n a v h => by
    first
      | (have h1 : v = .int .i64 a := h; exact h1)
      | (obtain ⟨vs, e, hvs⟩ := h
         obtain ⟨vl⟩ := vs
         have hvl : vl = [.int .i64 a.cnt, .int .i64 a.why] := by
           match vl, hvs with
           | [x, y], hvs => obtain ⟨rfl, rfl, _⟩ := hvs; rfl
         subst hvl
         exact e)) (fun a => ⟨_, rfl⟩) (R := lR) (fun b1 b2 D0 w h1 h2 => Try.meq95 b1 b2 1000 D0 w h1 h2) hen
end Go.AM
