/- Races: the table of the functions that make the states of all cells; the entries of a map of states. Conditions: none. -/
import Derived.Test.YtgcgbcdgbfeaaaaProg
import Derived.Test.YtgcgbcdgbfeaaaaBa1
import Derived.Test.YtgcgbcdgbfeaaaaBa3
import Derived.Test.YtgcgbcdgbfeaaaaBaIter
import Derived.Test.YtgcgbcdgbfeaaaaAmEv
set_option linter.unusedVariables false
set_option linter.unusedSimpArgs false
set_option maxRecDepth 100000
namespace Go.AM
open Go.Proofs Go.RowKit Go.Maps Go.WideElems
noncomputable def tabB : Tab := [(59, .pure j59), (60, .run j60), (100, .pure j100), (119, .pure j119)]
theorem okj59 : RowOk Try.prog 59 (.pure j59) := ⟨Try.func59, by kernel_rfl, by kernel_rfl, by kernel_rfl⟩
theorem okj60 : RowOk Try.prog 60 (.run j60) := ⟨Try.func60, by kernel_rfl, by kernel_rfl, by kernel_rfl⟩
theorem okj100 : RowOk Try.prog 100 (.pure j100) := ⟨Try.func100, by kernel_rfl, by kernel_rfl, by kernel_rfl⟩
theorem okj119 : RowOk Try.prog 119 (.pure j119) := ⟨Try.func119, by kernel_rfl, by kernel_rfl, by kernel_rfl⟩
theorem tabBOk : TabOk Try.prog tabB := TabOk.cons okj59 (TabOk.cons okj60 (TabOk.cons okj100 (TabOk.cons okj119 TabOk.nil)))
theorem sbB : Sb Try.prog tabB 1000 := ⟨rfl, Nat.le_refl _, by kernel_rfl, by kernel_rfl, by kernel_rfl, by kernel_rfl⟩
theorem ok60B : CallOk Try.prog 60 (ev Try.prog tabB 1000 4 60) := ev_ok tabBOk (by kernel_rfl) 4 60
/-- A map's entries: cells and states. -/
def stsOf : List (CV × CV) → Option (List (Int × Int × Int × Int))
  | [] => some []
  | (.sc (.int .i64 c), .ag [.int .i64 k, .int .i64 t, .int .u64 L]) :: es => if (Lit.int .i64 c).wf = true then (stsOf es).map ((c, k, t, L) :: ·) else none
  | _ :: _ => none
/-- The cells whose kind is four. -/
def bares (l : List (Int × Int × Int × Int)) : List Int := (l.filter fun x => x.2.1 == 4).map (·.1)
theorem stsOf_rel {g : G} {n : Nat} : ∀ (es : List (CV × CV)) (l : List (Int × Int × Int × Int)) (ms : List MapEntry), stsOf es = some l → MRel g n es ms →
    ms.map (fun m => (m.key, m.val)) = l.map (fun x => (Value.int .i64 x.1, stVal x.2)) ∧ ∀ x ∈ l, (Lit.int .i64 x.1).wf = true
  | [], l, [], h, _ => by
    obtain rfl := Option.some.inj h
    exact ⟨rfl, fun x hx => by cases hx⟩
  | [], l, _ :: _, _, h => by simp [MRel] at h
  | e :: es, l, [], _, h => by simp [MRel] at h
  | e :: es, l, m :: ms, h, hm => by
    unfold stsOf at h
    split at h
    · cases ‹_ :: _ = []›
    · rename_i c k t L es' he
      obtain ⟨rfl, rfl⟩ := List.cons.inj he
      split at h
      · rename_i hw
        obtain ⟨l', h1, rfl⟩ := Option.map_eq_some_iff.1 h
        obtain ⟨⟨hk, vs, hv, hvs⟩, hms⟩ := hm
        obtain ⟨r1, r2⟩ := stsOf_rel es l' ms h1 hms
        have hk' : m.key = Value.int .i64 c := hk
        obtain ⟨vl⟩ := vs
        have hvl : vl = [.int .i64 k, .int .i64 t, .int .u64 L] := by
          match vl, hvs with
          | [a, b, d], hvs => obtain ⟨rfl, rfl, rfl, _⟩ := hvs; rfl
        subst hvl
        refine ⟨?_, fun x hx => ?_⟩
        · rw [List.map_cons, List.map_cons, r1, hk', hv]; rfl
        · rcases List.mem_cons.1 hx with rfl | hx
          · exact hw
          · exact r2 x hx
      · cases h
    · cases h
/-- What such a block is to the kit. -/
theorem own_of {g : G} {h : List AO} {w : World} (H : HRel g h w) {l : Nat} {es : List (CV × CV)} {ls : List (Int × Int × Int × Int)} (hl : h[l]? = some (.map es)) (hs : stsOf es = some ls) (hlen : ls.length ≤ 1000) :
    ∃ D : DataW Unit, w.ownsMap Try.prog 3 stR (g.blk l) 1000 D ∧ (intKeys (Lib.deleteFuncD stD D)).Perm (bares ls) ∧ Maps.size (Lib.deleteFuncD stD D) ≤ 1000 := by
  obtain ⟨ms, t, h1, h2, h3⟩ := H.obj l _ hl
  obtain ⟨r1, r2⟩ := stsOf_rel es ls ms.toList hs h2
  have hsz : ms.size = ls.length := by
    have := congrArg List.length r1
    simpa using this
  have hrd : ∀ m ∈ ms.toList, ∃ x ∈ ls, rd Try.prog 3 (stR (H := Unit)) m = some (.int .i64 x.1, .lit (.int .i64 x.2.1)) := fun m hm => by
    have : (m.key, m.val) ∈ ls.map (fun x => (Value.int .i64 x.1, stVal x.2)) := by rw [← r1]; exact List.mem_map.2 ⟨m, hm, rfl⟩
    obtain ⟨x, hx, e⟩ := List.mem_map.1 this
    obtain ⟨e1, e2⟩ := Prod.mk.inj e
    refine ⟨x, hx, ?_⟩
    obtain ⟨mk, mv, mb⟩ := m
    simp only at e1 e2
    subst e1; subst e2
    exact rd_mk (keyOf_int_mk Try.underlying3 (r2 x hx)) (stR_val x.2)
  have hrg : ms.toList.map (rg Try.prog 3 (stR (H := Unit))) = ls.map (fun x => (.int .i64 x.1, .lit (.int .i64 x.2.1))) := by
    have aux : ∀ (ml : List MapEntry) (ll : List (Int × Int × Int × Int)), (∀ x ∈ ll, (Lit.int .i64 x.1).wf = true) → ml.map (fun m => (m.key, m.val)) = ll.map (fun x => (Value.int .i64 x.1, stVal x.2)) →
        ml.map (rg Try.prog 3 (stR (H := Unit))) = ll.map (fun x => (.int .i64 x.1, .lit (.int .i64 x.2.1))) := by
      intro ml
      induction ml with
      | nil => intro ll _ e; cases ll with | nil => rfl | cons _ _ => cases e
      | cons m ml ih =>
        intro ll hw e
        cases ll with
        | nil => cases e
        | cons x ll =>
          obtain ⟨e1, e2⟩ := List.cons.inj e
          obtain ⟨e3, e4⟩ := Prod.mk.inj e1
          obtain ⟨mk, mv, mb⟩ := m
          simp only at e3 e4
          subst e3; subst e4
          rw [List.map_cons, List.map_cons, ih ll (fun y hy => hw y (List.mem_cons_of_mem _ hy)) e2]
          rw [rg_of (rd_mk (keyOf_int_mk Try.underlying3 (hw x List.mem_cons_self)) (stR_val x.2))]
    exact aux _ _ r2 r1
  refine ⟨_, ⟨ms, t, h1, ⟨by rw [hsz]; unfold maxLen; omega, h3, fun m hm => ?_⟩, by omega, rfl⟩, ?_, ?_⟩
  · obtain ⟨x, _, e⟩ := hrd m hm; exact ⟨_, e⟩
  · rw [hrg]
    show (List.map (fun p => intOf p.1) (List.filter (fun p => !stD p.1 p.2) (List.foldr DataW.insert [] _))).Perm _
    refine (((Go.WideShapes.sorted_perm _).filter _).map _).trans ?_
    refine List.Perm.of_eq ?_
    unfold bares
    rw [List.filter_map, List.map_map]
    congr 1
    refine congrArg (fun f => List.filter f ls) ?_
    funext x
    show (!(x.2.1 != 4)) = (x.2.1 == 4)
    cases h : (x.2.1 == 4) <;> simp [bne, h]
  · rw [hrg]
    show (List.filter (fun p => !stD p.1 p.2) (List.foldr DataW.insert [] _)).length ≤ _
    refine Nat.le_trans (List.length_filter_le _ _) ?_
    rw [(Go.WideShapes.sorted_perm _).length_eq, List.length_map]; exact hlen
end Go.AM
