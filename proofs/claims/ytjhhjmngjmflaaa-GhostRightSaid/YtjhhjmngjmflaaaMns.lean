/- Monitors' model: events; two lists in one; owners' law. Conditions: none. -/
import Derived.Test.YtjhhjmngjmflaaaMot8
import Derived.Test.YtjhhjmngjmflaaaMn1
set_option linter.unusedVariables false
set_option linter.unusedSimpArgs false
set_option maxRecDepth 100000
namespace Go.AM
open Go.Proofs
-- LENS: EvV.len, MonV.len
theorem ext_of_get {a b : List AO} (hl : a.length ≤ b.length) (hg : ∀ l, l < a.length → b[l]? = a[l]?) : Ext1 a b := by
  refine ⟨b.drop a.length, ?_⟩
  have : b.take a.length = a := by
    apply List.ext_getElem?
    intro i
    rw [List.getElem?_take]
    split
    · rename_i h; exact hg i h
    · rename_i h; rw [List.getElem?_eq_none (by omega)]
  have h2 := List.take_append_drop a.length b
  rw [this] at h2
  exact h2.symm
/-- Events, up to two hundred. -/
def Ev2 (h : List AO) (q : SV) (l : List EvV) (n : Nat) : Prop := (q = .nils ∧ n = 0) ∨ ∃ b, q = .sl b 0 n 5 ∧ b < h.length ∧ cellsAt h b = some (recs EvV.cells l) ∧ n ≤ l.length
theorem Ev2.len {P : Program} {t el : TypeId} (hu : P.underlying t = some (.slice el)) {h : List AO} {q : SV} {l : List EvV} {n : Nat} (H : Ev2 h q l n) (hh : List AO) : lenA P hh t (.v (.sc q)) = some (.v (.sc (.int .i64 (n : Int)))) := by
  rcases H with ⟨rfl, rfl⟩ | ⟨b, rfl, _⟩
  · exact len_nils hu
  · exact len_sl hu _ _ _ _
section
variable {P : Program} {T : Tab} {K d : Nat} (S : Sd P T K)
include S
theorem partR (e : EvV) : partA P 29 e.cells 0 = some (.ag e.cells) := by
  have := recs_part (ag29 S.p) (sz29 S.p) EvV.len (l := [e]) (i := 0) rfl
  rw [show recs EvV.cells [e] = e.cells by simp [recs]] at this; exact this
end
structure OwSt where
  i : Nat
  V : MdV
  h : List AO
structure OxSt where
  o : Nat
  h : List AO
structure OySt where
  j : Nat
section
variable {P : Program} {T : Tab} {K d : Nat} (S : Sd P T K)
include S
end
end Go.AM
/- Monitors' model: copies, and whether two are the same. Conditions: none. -/
set_option linter.unusedVariables false
set_option linter.unusedSimpArgs false
set_option maxRecDepth 100000
namespace Go.AM
open Go.Proofs
section
variable {P : Program} {T : Tab} {K d : Nat} (S : Sd P T K)
include S
end
end Go.AM
/- Monitors' model: errors turn nothing. Conditions: none. -/
set_option linter.unusedVariables false
set_option linter.unusedSimpArgs false
set_option maxRecDepth 100000
namespace Go.AM
open Go.Proofs
-- LENS: EvV.len, MonV.len
/-- Why one left: woken, interrupted, or late. -/
def MdW (V : MdV) : Prop := ∀ x ∈ V.left, x.2.why = 0 ∨ x.2.why = 12 ∨ x.2.why = 13
theorem MdW.app {V W : MdV} {e : EvV} {o : MonV} {f : Bool} (H : MdW V) (hA : applyV V e o f = some W) : MdW W := by
  have hup : ∀ (k : Pk) (x : LfV), (x.why = 0 ∨ x.why = 12 ∨ x.why = 13) → ∀ y ∈ updP k x V.left, y.2.why = 0 ∨ y.2.why = 12 ∨ y.2.why = 13 := fun k x hx y hy => by
    rcases updP_mem k x V.left y hy with rfl | h
    · exact hx
    · exact H y h
  have hdl : ∀ (k : Pk), ∀ y ∈ delP k V.left, y.2.why = 0 ∨ y.2.why = 12 ∨ y.2.why = 13 := fun k y hy => H y (mem_delP k _ y hy)
  unfold applyV at hA
  split at hA
  · split at hA
    · unfold enterV at hA
      repeat' split at hA
      all_goals first | (cases hA; done) | (obtain rfl := Option.some.inj hA; exact H)
    · cases hA
  · split at hA
    · split at hA
      · unfold exitV at hA
        split at hA
        · split at hA
          · obtain rfl := Option.some.inj hA; exact H
          · cases hA
        · split at hA
          · cases hA
          · obtain rfl := Option.some.inj hA; exact H
      · cases hA
    · split at hA
      · split at hA
        · unfold beginV at hA
          repeat' split at hA
          all_goals first | (cases hA; done) | (obtain rfl := Option.some.inj hA; exact H)
        · cases hA
      · split at hA
        · split at hA
          · rename_i hc
            unfold leaveV at hA
            split at hA
            · obtain rfl := Option.some.inj hA
              refine hup _ _ ?_
              rcases hc.2 with h | h
              · exact .inr (.inr h)
              · exact .inr (.inl h.1)
            · cases hA
          · cases hA
        · split at hA
          · split at hA
            · unfold endV at hA
              split at hA
              · split at hA
                · cases hA
                · obtain rfl := Option.some.inj hA
                  exact hdl _
              · cases hA
            · cases hA
          · split at hA
            · unfold tellV at hA
              split at hA
              · split at hA
                · unfold leaveV at hA
                  split at hA
                  · obtain rfl := Option.some.inj hA
                    exact hup _ _ (.inl rfl)
                  · cases hA
                · cases hA
              · repeat' split at hA
                all_goals first | (cases hA; done) | (obtain rfl := Option.some.inj hA; exact H)
            · split at hA
              · unfold hashV at hA
                repeat' split at hA
                all_goals first | (cases hA; done) | (obtain rfl := Option.some.inj hA; exact H)
              · split at hA
                · unfold holdsV at hA
                  split at hA
                  · obtain rfl := Option.some.inj hA; exact H
                  · cases hA
                · split at hA
                  · unfold intrV at hA
                    split at hA
                    · obtain rfl := Option.some.inj hA; exact H
                    · cases hA
                  · cases hA
theorem AppV_app {V W : MdV} {e : EvV} (h : AppV V e = some W) : applyV V e (V.mons.getD e.o.toNat ⟨-1, 0, 0⟩) (V.flags.getD e.t.toNat false) = some W := by
  unfold AppV at h
  split at h
  · exact h
  · cases h
theorem MdW.next {V : MdV} (H : MdW V) (e : EvV) : MdW (nextM V e) := by
  unfold nextM
  cases h : AppV V e with
  | none => exact H
  | some W => exact H.app (AppV_app h)
theorem MdAt.fr {h h' : List AO} {bm bf bw bl p' bm' bf' bw' bl' : Nat} {V : MdV} (M : MdAt h p' bm' bf' bw' bl' V) (F : Fr bm bf bw bl h h')
    (hn : ∀ x, x = p' ∨ x = bm' ∨ x = bf' ∨ x = bw' ∨ x = bl' → x ≠ bm ∧ x ≠ bf ∧ x ≠ bw ∧ x ≠ bl) : MdAt h' p' bm' bf' bw' bl' V := by
  obtain ⟨l1, l2, l3, l4, l5⟩ := M.lts
  have g : ∀ x, x < h.length → (x = p' ∨ x = bm' ∨ x = bf' ∨ x = bw' ∨ x = bl') → h'[x]? = h[x]? := fun x hl hx => F.2 x hl (hn x hx).1 (hn x hx).2.1 (hn x hx).2.2.1 (hn x hx).2.2.2
  exact ⟨(g _ l1 (.inl rfl)).trans M.pp, (g _ l2 (.inr (.inl rfl))).trans M.pm, (g _ l3 (.inr (.inr (.inl rfl)))).trans M.pf, (g _ l4 (.inr (.inr (.inr (.inl rfl))))).trans M.pw, (g _ l5 (.inr (.inr (.inr (.inr rfl))))).trans M.pl, M.ne⟩
structure ErSt where
  i : Nat
  V : MdV
  h : List AO
section
variable {P : Program} {T : Tab} {K d : Nat} (S : Sd P T K)
include S
end
end Go.AM
