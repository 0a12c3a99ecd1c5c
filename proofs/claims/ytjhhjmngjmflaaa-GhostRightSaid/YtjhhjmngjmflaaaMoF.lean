/- Monitors' model: maps copied, and held against each other: contracts, told of abstract heaps. Conditions: none. -/
import Derived.Test.YtjhhjmngjmflaaaMoE
import Derived.Test.YtjhhjmngjmflaaaMoH
import Derived.Test.YtjhhjmngjmflaaaMoV
set_option linter.unusedVariables false
set_option linter.unusedSimpArgs false
set_option maxRecDepth 100000
namespace Go.Proofs
open Go.RowKit Go.Maps Go.Sort Go.Shelf
def Try.cl67_ren : Go.Shelf.Ren := ⟨fun | 5 => 67 | 7 => 83 | n => n, fun | 23 => 129 | 25 => 138 | 3 => 3 | 20 => 20 | 4 => 4 | n => n, fun n => n⟩
theorem Try.cl67 : Go.Proofs.SlLaysW.n5 Try.prog Try.cl67_ren := {
  mixed := by kernel_rfl
  f5 := ⟨Try.f67.name, by decide, Try.func67.trans (congrArg some (by kernel_rfl))⟩
  f7 := Try.func83.trans (congrArg some (by kernel_rfl))
  t4 := Try.underlying4
  a4 := Try.isAgg4
  z4 := Try.sizeOf4
  v4 := Try.zeroValue4
  t20 := Try.underlying20
  a20 := Try.isAgg20
  z20 := Try.sizeOf20
  v20 := Try.zeroValue20
  t23 := Try.underlying129
  a23 := Try.isAgg129
  z23 := Try.sizeOf129
  v23 := Try.zeroValue129 }
def Try.cl68_ren : Go.Shelf.Ren := ⟨fun | 5 => 68 | 7 => 83 | n => n, fun | 23 => 130 | 25 => 138 | 3 => 141 | 20 => 20 | 4 => 4 | n => n, fun n => n⟩
theorem Try.cl68 : Go.Proofs.SlLaysW.n5 Try.prog Try.cl68_ren := {
  mixed := by kernel_rfl
  f5 := ⟨Try.f68.name, by decide, Try.func68.trans (congrArg some (by kernel_rfl))⟩
  f7 := Try.func83.trans (congrArg some (by kernel_rfl))
  t4 := Try.underlying4
  a4 := Try.isAgg4
  z4 := Try.sizeOf4
  v4 := Try.zeroValue4
  t20 := Try.underlying20
  a20 := Try.isAgg20
  z20 := Try.sizeOf20
  v20 := Try.zeroValue20
  t23 := Try.underlying130
  a23 := Try.isAgg130
  z23 := Try.sizeOf130
  v23 := Try.zeroValue130 }
end Go.Proofs
namespace Go.AM
open Go.Proofs Go.RowKit Go.Maps Go.WideElems
/-- What a copy of a map comes to. -/
def clF (xs : List CV) (lk : Nat) (h : List AO) : Option (AV × List AO) := match xs with
  | [.sc (.mp l)] => match h[l]? with
    | some (.map es) => some (.v (.sc (.mp h.length)), h ++ [.map es])
    | _ => none
  | _ => none
theorem cl_of {f : FuncId} (hc : ∀ (b : Nat) (es : Array MapEntry) (clock : Nat) (w : World), w.heap[b]? = some (.map es clock) → Calls Try.prog f #[.map (some b)] w fun e w' => e = .returned (.map (some w.heap.size)) ∧ w' = w.alloc (.map es clock))
    (hen : ∀ args w, (callFunc f args).run Try.prog w = .ok (.enter f args) w) : CallOk Try.prog f clF := by
  intro g h w lock xs vals r h' H hv hr
  refine ⟨hen _ _, ?_⟩
  match xs, hr with
  | [.sc (.mp l)], hr =>
    simp only [clF] at hr
    split at hr
    · rename_i es hes
      obtain ⟨rfl, rfl⟩ := Prod.mk.inj (Option.some.inj hr)
      have hlt : l < h.length := (List.getElem?_eq_some_iff.1 hes).1
      obtain rfl : vals = [.map (some (g.blk l))] := by
        match vals, hv with
        | [a], hv =>
          have h1 := hv.1
          simp only [CRel, SRel] at h1
          rw [h1.2]
      obtain ⟨ms, t, h1, h2, h3⟩ := H.obj l _ hes
      refine (hc _ ms t w h1).mono ?_
      rintro e w' ⟨rfl, rfl⟩
      have hK : ∀ k, k < w.heap.size → (w.alloc (.map ms t)).heap[k]? = w.heap[k]? := fun k hk => Below.heap_alloc _ _ _ hk
      have H' : HRel g h (w.alloc (.map ms t)) := H.world fun j hj => hK _ (H.lt hj)
      have hext := g.upd_ext h.length w.heap.size 0 0
      refine ⟨_, g.upd h.length w.heap.size 0 0, rfl, ?_, ?_, hext, by simp, ⟨rfl, rfl, rfl, by simp, fun k hk _ => hK k hk⟩, ?_⟩
      · show h.length < _ ∧ _
        exact ⟨by simp, by simp [G.upd]⟩
      · refine H'.push _ _ _ _ (fun j hj e => ?_) ?_
        · have := H.lt hj
          omega
        · obtain ⟨ms', t', h1', h2', h3'⟩ := ORel.mono (Nat.le_succ _) hext hlt (H'.obj l _ hes)
          have hb : (g.upd h.length w.heap.size 0 0).blk l = g.blk l := (hext l hlt).1
          rw [hb, hK _ ((Array.getElem?_eq_some_iff.1 h1).1), h1] at h1'
          have he := Option.some.inj h1'
          injection he with he1 he2
          subst he1
          subst he2
          refine ⟨ms, t, ?_, h2', h3'⟩
          have : (g.upd h.length w.heap.size 0 0).blk h.length = w.heap.size := by simp [G.upd]
          rw [this]
          exact World.alloc_heap_new w _
      · intro j hj1 hj2
        rcases isRW_append hj2 with hj | ⟨rfl, _⟩
        · have hlt := isLive_lt hj.live
          exact .inl ⟨j, hj1, hj, ((hext j hlt).1).symm⟩
        · refine .inr ?_
          show _ ≤ (g.upd _ _ 0 0).blk _
          simp [G.upd]
    · cases hr
/-- The entries of such a map, one by one. -/
theorem ents_rel {α : Type} {enc : α → CV} {val : α → Value} (hval : ∀ (g : G) (n : Nat) (a : α) (v : Value), CRel g n (enc a) v → v = val a) {g : G} {n : Nat} : ∀ (M : List (Pk × α)) (ms : List MapEntry), MRel g n (entsP enc M) ms → ms.map (fun m => (m.key, m.val)) = M.map (fun x => (pkV x.1, val x.2))
  | [], [], _ => rfl
  | [], _ :: _, h => by simp [entsP, MRel] at h
  | _ :: _, [], h => by simp [entsP, MRel] at h
  | (k, a) :: M, m :: ms, h => by
    obtain ⟨⟨hk, hv⟩, ht⟩ := h
    rw [List.map_cons, List.map_cons, ents_rel hval M ms ht, hval _ _ _ _ hv]
    obtain ⟨vs, e, hvs⟩ := hk
    obtain ⟨vl⟩ := vs
    have hvl : vl = [.int .i64 k.1, .int .i64 k.2] := by
      match vl, hvs with
      | [x, y], hvs => obtain ⟨rfl, rfl, _⟩ := hvs; rfl
    subst hvl
    rw [e]; rfl
/-- Two such maps with the same entries, as the kit reads them. -/
theorem own2_of {α : Type} {enc : α → CV} {val : α → Value} (hval : ∀ (g : G) (n : Nat) (a : α) (v : Value), CRel g n (enc a) v → v = val a) {R : Value → Option (DataW Unit × List MemPlace)} (hR : ∀ a, ∃ y, R (val a) = some y) {g : G} {h : List AO} {w : World} (H : HRel g h w) {M : List (Pk × α)} (hw : ∀ x ∈ M, (Lit.int .i64 x.1.1).wf = true ∧ (Lit.int .i64 x.1.2).wf = true) (hlen : M.length ≤ 1000) :
    ∀ l, h[l]? = some (.map (entsP enc M)) → w.ownsMap Try.prog 138 R (g.blk l) 1000 (.map ((M.map fun x => ((((keyOf Try.prog 138 (pkV x.1)).bind fun key => (R (val x.2)).map fun y => (key, y.1)) : Option (Lit × DataW Unit)).getD (.bool false, .nil))).foldr DataW.insert [])) := by
  intro l hl
  have T := Try.pairT
  obtain ⟨ms, t, h1, h2, h3⟩ := H.obj l _ hl
  have r1 := ents_rel hval M ms.toList h2
  have hsz : ms.size = M.length := by
    have := congrArg List.length r1
    simpa using this
  refine ⟨ms, t, h1, ⟨by rw [hsz]; unfold maxLen; omega, h3, fun m hm => ?_⟩, by omega, ?_⟩
  · have : (m.key, m.val) ∈ M.map (fun x => (pkV x.1, val x.2)) := by rw [← r1]; exact List.mem_map.2 ⟨m, hm, rfl⟩
    obtain ⟨x, hx, e⟩ := List.mem_map.1 this
    obtain ⟨e1, e2⟩ := Prod.mk.inj e
    obtain ⟨kl, hkl⟩ := T.mk' (x := x.1) (hw x hx).1 (hw x hx).2
    obtain ⟨y, hy⟩ := hR x.2
    obtain ⟨mk, mv, mb⟩ := m
    simp only at e1 e2
    subst e1
    subst e2
    exact ⟨_, rd_mk hkl hy⟩
  · congr 1
    congr 1
    have : ms.toList.map (rg Try.prog 138 R) = (ms.toList.map (fun m => (m.key, m.val))).map (fun p => ((((keyOf Try.prog 138 p.1).bind fun key => (R p.2).map fun y => (key, y.1)) : Option (Lit × DataW Unit)).getD (.bool false, .nil))) := by
      rw [List.map_map]; rfl
    rw [this, r1, List.map_map]; rfl
open Classical in
theorem cl67_ok (_ : True) (hen : ∀ args w, (callFunc 67 args).run Try.prog w = .ok (.enter 67 args) w) : CallOk Try.prog 67 clF := cl_of (fun b es clock w hb => AnyW.maps_Clone Try.cl67 b es clock w hb) hen
theorem cl68_ok (_ : True) (hen : ∀ args w, (callFunc 68 args).run Try.prog w = .ok (.enter 68 args) w) : CallOk Try.prog 68 clF := cl_of (fun b es clock w hb => AnyW.maps_Clone Try.cl68 b es clock w hb) hen
end Go.AM
