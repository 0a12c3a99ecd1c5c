/- Monitors' model: the threads at an object: contracts, told of abstract heaps. Conditions: none. -/
import Derived.Test.YtjhhjmngjmflaaaMok
import Derived.Test.YtjhhjmngjmflaaaAmSort
set_option linter.unusedVariables false
set_option linter.unusedSimpArgs false
set_option maxRecDepth 100000
namespace Go.AM
open Go.Proofs Go.RowKit Go.Maps Go.WideElems Go.Sort Go.Shelf
/-- A map's keys that are pairs. -/
def keysOf : List (CV × CV) → Option (List (Int × Int))
  | [] => some []
  | (.ag [.int .i64 a, .int .i64 b], _) :: es => if (Lit.int .i64 a).wf = true ∧ (Lit.int .i64 b).wf = true then (keysOf es).map ((a, b) :: ·) else none
  | _ :: _ => none
theorem keysOf_rel {g : G} {n : Nat} : ∀ (es : List (CV × CV)) (l : List (Int × Int)) (ms : List MapEntry), keysOf es = some l → MRel g n es ms →
    ms.map (·.key) = l.map pkV ∧ ∀ x ∈ l, (Lit.int .i64 x.1).wf = true ∧ (Lit.int .i64 x.2).wf = true
  | [], l, [], h, _ => by
    obtain rfl := Option.some.inj h
    exact ⟨rfl, fun x hx => by cases hx⟩
  | [], l, _ :: _, _, h => by simp [MRel] at h
  | e :: es, l, [], _, h => by simp [MRel] at h
  | e :: es, l, m :: ms, h, hm => by
    unfold keysOf at h
    split at h
    · cases ‹_ :: _ = []›
    · rename_i a b v es' he
      obtain ⟨rfl, rfl⟩ := List.cons.inj he
      split at h
      · rename_i hw
        obtain ⟨l', h1, rfl⟩ := Option.map_eq_some_iff.1 h
        obtain ⟨⟨hk, _⟩, hms⟩ := hm
        obtain ⟨r1, r2⟩ := keysOf_rel es l' ms h1 hms
        obtain ⟨vs, hv, hvs⟩ := hk
        obtain ⟨vl⟩ := vs
        have hvl : vl = [.int .i64 a, .int .i64 b] := by
          match vl, hvs with
          | [x, y], hvs => obtain ⟨rfl, rfl, _⟩ := hvs; rfl
        subst hvl
        refine ⟨?_, fun x hx => ?_⟩
        · rw [List.map_cons, List.map_cons, r1, hv]; rfl
        · rcases List.mem_cons.1 hx with rfl | hx
          · exact hw
          · exact r2 x hx
      · cases h
    · cases h
/-- A map whose values nobody reads. -/
def anyR (_ : Value) : Option (DataW Unit × List MemPlace) := some (.nil, [])
theorem ownP_of {g : G} {h : List AO} {w : World} (H : HRel g h w) {l : Nat} {es : List (CV × CV)} {ks : List (Int × Int)} (hl : h[l]? = some (.map es)) (hs : keysOf es = some ks) (hlen : ks.length ≤ 1000) :
    ∃ D : DataW Unit, w.ownsMap Try.prog 138 anyR (g.blk l) 1000 D ∧ Maps.size D ≤ 1000 ∧ ∀ x, KeyIn Try.prog 138 D x ↔ x ∈ ks := by
  have T := Try.pairT
  obtain ⟨ms, t, h1, h2, h3⟩ := H.obj l _ hl
  obtain ⟨r1, r2⟩ := keysOf_rel es ks ms.toList hs h2
  have hsz : ms.size = ks.length := by
    have := congrArg List.length r1
    simpa using this
  have hrd : ∀ m ∈ ms.toList, ∃ x ∈ ks, ∃ kl, m.key = pkV x ∧ keyOf Try.prog 138 (pkV x) = some kl ∧ rd Try.prog 138 anyR m = some (kl, .nil) := fun m hm => by
    have : m.key ∈ ks.map pkV := by rw [← r1]; exact List.mem_map.2 ⟨m, hm, rfl⟩
    obtain ⟨x, hx, e⟩ := List.mem_map.1 this
    obtain ⟨kl, hkl⟩ := T.mk' (x := x) (r2 x hx).1 (r2 x hx).2
    obtain ⟨mk, mv, mb⟩ := m
    simp only at e
    subst e
    exact ⟨x, hx, kl, rfl, hkl, rd_mk hkl (show anyR mv = some (.nil, []) from rfl)⟩
  refine ⟨_, ⟨ms, t, h1, ⟨by rw [hsz]; unfold maxLen; omega, h3, fun m hm => ?_⟩, by omega, rfl⟩, ?_, fun x => ?_⟩
  · obtain ⟨x, _, kl, _, _, e⟩ := hrd m hm; exact ⟨_, e⟩
  · show (List.foldr DataW.insert [] _).length ≤ _
    rw [(Go.WideShapes.sorted_perm _).length_eq, List.length_map, Array.length_toList, hsz]; exact hlen
  · unfold KeyIn
    have hm : ∀ kl, has (.map ((ms.toList.map (rg Try.prog 138 (anyR))).foldr DataW.insert [])) kl = true ↔ ∃ m ∈ ms.toList, (rg Try.prog 138 anyR m).1.sameKey kl = true := fun kl => by
      rw [has_eq, List.any_eq_true]
      constructor
      · rintro ⟨p, hp, hs⟩
        obtain ⟨m, hm, rfl⟩ := List.mem_map.1 ((Go.WideShapes.sorted_perm _).mem_iff.1 hp)
        exact ⟨m, hm, hs⟩
      · rintro ⟨m, hm, hs⟩
        exact ⟨_, (Go.WideShapes.sorted_perm _).mem_iff.2 (List.mem_map.2 ⟨m, hm, rfl⟩), hs⟩
    have hstr : ∀ {v : Value} {k : Lit}, keyOf Try.prog 138 v = some k → ∃ s, k = .string s := fun hv => by
      obtain ⟨f0, f1, hu, _⟩ := T.s
      obtain ⟨_, _, _, _, e⟩ := keyOf_top (by rw [hu]) hv
      exact ⟨_, e⟩
    constructor
    · rintro ⟨kl, e1, e2⟩
      obtain ⟨m, hmm, e3⟩ := (hm kl).1 e2
      obtain ⟨y, hy, k', _, e5, e6⟩ := hrd m hmm
      rw [rg_of e6] at e3
      obtain ⟨s1, rfl⟩ := hstr e1
      obtain ⟨s2, rfl⟩ := hstr e5
      simp [Lit.sameKey] at e3
      subst e3
      obtain rfl := pkV_inj (T.law.inj e1 e5)
      exact hy
    · intro hx
      have : pkV x ∈ ms.toList.map (·.key) := by rw [r1]; exact List.mem_map.2 ⟨x, hx, rfl⟩
      obtain ⟨m, hmm, e⟩ := List.mem_map.1 this
      obtain ⟨y, hy, k', e4, e5, e6⟩ := hrd m hmm
      have hxy : x = y := pkV_inj (e.symm.trans e4)
      subst hxy
      refine ⟨k', e5, (hm k').2 ⟨m, hmm, ?_⟩⟩
      rw [rg_of e6]
      obtain ⟨s, rfl⟩ := hstr e5
      simp [Lit.sameKey]
/-- What threads come to, told of abstract heaps. -/
noncomputable def thrF (xs : List CV) (lk : Nat) (h : List AO) : Option (AV × List AO) := match xs with
  | [.sc (.mp l), .sc (.int .i64 o)] => match h[l]? with
    | some (.map es) => match keysOf es with
      | some ks => if ks.length ≤ 1000 ∧ ks.Nodup then (if pickT o ks = [] then some (.v (.sc .nils), h) else some (.v (.sc (.sl h.length 0 (pickT o ks).length 1)), h ++ [.rw 3 ((sortL (pickT o ks)).map (SV.int .i64))])) else none
      | none => none
    | _ => none
  | _ => none
theorem thr_of {f : FuncId} (hc : ∀ (b : Nat) (D0 : DataW Unit) (o : Int) (w : World), w.ownsMap Try.prog 138 anyR b 1000 D0 → Maps.size D0 ≤ 1000 → Calls Try.prog f #[.map (some b), .int .i64 o] w fun e w' => ∃ (v : Value) (ss : List (Int × Int)), e = .returned v ∧ ss.Nodup ∧ (∀ x, x ∈ ss ↔ KeyIn Try.prog 138 D0 x) ∧
      w'.ownsRow w.heap.size 3 1 v (pickT o ss).length (((pickT o ss).mergeSort (fun x y => decide (x ≤ y))).map (Value.int .i64)) ∧ (v = .slice none 0 0 ↔ pickT o ss = []) ∧ RowKit.Below w.heap.size w w')
    (hen : ∀ args w, (callFunc f args).run Try.prog w = .ok (.enter f args) w) : CallOk Try.prog f thrF := by
  intro g h w lock xs vals r h' H hv hr
  refine ⟨hen _ _, ?_⟩
  match xs, hr with
  | [.sc (.mp l), .sc (.int .i64 o)], hr =>
    simp only [thrF] at hr
    split at hr
    · rename_i es hes
      split at hr
      · rename_i ks hks
        split at hr
        · rename_i hcc
          have hlt : l < h.length := (List.getElem?_eq_some_iff.1 hes).1
          obtain rfl : vals = [.map (some (g.blk l)), .int .i64 o] := by
            match vals, hv with
            | [a, b], hv =>
              obtain ⟨h1, h2, _⟩ := hv
              simp only [CRel, SRel] at h1 h2
              rw [h1.2, h2]
          obtain ⟨D, d1, d2, d3⟩ := ownP_of H hes hks hcc.1
          refine (hc _ D o w d1 d2).mono ?_
          rintro e w' ⟨v, ss, rfl, hnd, hmem, hrow, hnil, hb⟩
          have hp : ss.Perm ks := (List.perm_ext_iff_of_nodup hnd hcc.2).2 fun x => (hmem x).trans (d3 x)
          have hpp : (pickT o ss).Perm (pickT o ks) := (hp.filter _).map _
          have hsort : (pickT o ss).mergeSort (fun x y => decide (x ≤ y)) = sortL (pickT o ks) := mergeSort_of_perm_i hpp
          have hlen := hpp.length_eq
          have hK : ∀ k, k < w.heap.size → w'.heap[k]? = w.heap[k]? := fun k hk => hb.block k hk
          have hKeeps : Keeps (fun b => ∃ l, lock ≤ l ∧ isRW h l ∧ g.blk l = b) w w' := ⟨hb.os, hb.tape, hb.output, hb.size, fun k hk _ => hK k hk⟩
          have H' : HRel g h w' := H.world fun j hj => hK _ (H.lt hj)
          split at hr
          · rename_i hnone
            obtain ⟨rfl, rfl⟩ := Prod.mk.inj (Option.some.inj hr)
            have hss : pickT o ss = [] := List.eq_nil_of_length_eq_zero (by rw [hlen, hnone]; rfl)
            obtain rfl := hnil.2 hss
            exact ⟨_, g, rfl, rfl, H', GExt.refl _ _, Nat.le_refl _, hKeeps, fun j hj1 hj2 => .inl ⟨j, hj1, hj2, rfl⟩⟩
          · rename_i hsome
            obtain ⟨rfl, rfl⟩ := Prod.mk.inj (Option.some.inj hr)
            have hne : pickT o ss ≠ [] := fun e => hsome (List.eq_nil_of_length_eq_zero (by rw [← hlen, e]; rfl))
            obtain ⟨hrl, hrow⟩ := hrow
            rcases hrow with ⟨e, _⟩ | ⟨gb, cap, cur, rfl, hBg, hcur, hcap, hmaxc, hcs, htake⟩
            · exact absurd (hnil.1 e) hne
            · rw [hsort] at htake
              refine ⟨_, g.upd h.length gb 0 cap, rfl, ?_, ?_, ?_, ?_, hKeeps, ?_⟩
              · show h.length < _ ∧ _
                refine ⟨by simp, cap, 0, none, by omega, by simp [G.upd], .inr ⟨by simp [G.upd], rfl⟩, ?_⟩
                simp [G.upd, hlen]
              · refine H'.push _ _ _ _ (fun j hj e => ?_) ?_
                · have := H.lt hj
                  omega
                · refine ⟨cur, by simpa [G.upd] using hcur, by simp [G.upd, hcs], ?_, fun i x hx => ?_⟩
                  · have : (sortL (pickT o ks)).length = (pickT o ks).length := List.length_mergeSort _
                    simp [G.upd, this]; omega
                  · rw [List.getElem?_map] at hx
                    obtain ⟨y, hy, rfl⟩ := Option.map_eq_some_iff.1 hx
                    refine ⟨Value.int .i64 y, ?_, rfl⟩
                    have hi : i < (sortL (pickT o ks)).length := (List.getElem?_eq_some_iff.1 hy).1
                    have hsl : (sortL (pickT o ks)).length = (pickT o ks).length := List.length_mergeSort _
                    have h9 : (cur.toList.take ((pickT o ss).length * 1))[i]? = some (Value.int .i64 y) := by rw [htake, List.getElem?_map, hy]; rfl
                    rw [List.getElem?_take_of_lt (by omega)] at h9
                    simpa [G.upd] using h9
              · exact g.upd_ext _ gb 0 cap
              · simp
              · intro j hj1 hj2
                rcases isRW_append hj2 with hj | ⟨rfl, _⟩
                · have hlt := isLive_lt hj.live
                  refine .inl ⟨j, hj1, hj, ?_⟩
                  exact ((g.upd_ext _ gb 0 cap j hlt).1).symm
                · refine .inr ?_
                  show _ ≤ (g.upd _ gb 0 cap).blk _
                  simp [G.upd]; omega
        · cases hr
      · cases hr
    · cases hr
theorem thr88_ok (_ : True) (hen : ∀ args w, (callFunc 88 args).run Try.prog w = .ok (.enter 88 args) w) : CallOk Try.prog 88 thrF :=
  thr_of (fun b D0 o w hown hmax => (callsIn_wide (n := 6)).1 (Try.thr88 Fence.wide 6 (fun _ => trivial) rfl (by omega)
    (fun blk off cap ss W hH hblk hsz => callsIn_wide.2 (Any.slices_Sort_int Try.lays189 blk off cap ss W hH hblk hsz))
    (fun p cap W => callsIn_wide.2 (Any.slices_Sort_int_none Try.lays189 p cap W)) b 1000 D0 o w hown hmax)) hen
end Go.AM
