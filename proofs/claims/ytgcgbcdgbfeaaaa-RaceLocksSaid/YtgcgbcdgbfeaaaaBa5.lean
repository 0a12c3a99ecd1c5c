/- Races: the cells that are Bare: a contract of Bares. Conditions: none. -/
import Derived.Test.YtgcgbcdgbfeaaaaBa4
import Derived.Test.YtgcgbcdgbfeaaaaAmSort
set_option linter.unusedVariables false
set_option linter.unusedSimpArgs false
set_option maxRecDepth 100000
namespace Go.Proofs
open Go.RowKit Go.Maps
/-- Kept from the walk's eyes. -/
def Kept (p : Prop) : Prop := p
theorem Kept.out {p : Prop} (h : Kept p) : p := h
set_option maxHeartbeats 4000000 in
theorem bare23 {Φ : Nat → DataW Unit → World → Prop} (v0 : Value) (w : World)
    (c60 : ∀ W, (W = w ∨ W = w.drew ∨ W = w.drew.drew) → Calls Try.prog 60 #[v0] W fun e w1 => ∃ b D, e = .returned (.map (some b)) ∧ w1.ownsMap Try.prog 3 stR b 1000 D ∧ Maps.size (Lib.deleteFuncD stD D) ≤ 1000 ∧ Kept (Φ b D w1)) :
    Calls Try.prog 23 #[v0] w fun e w4 => ∃ (w1 : World) (b : Nat) (D : DataW Unit) (v : Value) (ss : List Int) (B : Nat), e = .returned v ∧ Φ b D w1 ∧ ss.Perm (intKeys (Lib.deleteFuncD stD D)) ∧ w1.heap.size ≤ B ∧
      w4.ownsRow B 3 1 v ss.length ((ss.mergeSort (fun x y => decide (x ≤ y))).map encZ) ∧ (v = .slice none 0 0 ↔ ss = []) ∧ w1.grownBy w4 (some b) := by
  have HC : Aside _ := c60
  clear c60
  have FG := Try.func23
  go_enter FG, Try.ntmps23
  go_wp2_with (first
    | (go_at_call 60; refine (HC.out _ (by simp)).mono ?_; rintro e w1 ⟨b, D, rfl, hown, hsz, hΦ⟩
       have hOwn : Aside _ := hown
       have hSz : Aside _ := hsz
       clear hown hsz)
    | (go_at_call 61; refine (bare61 b 1000 D _ (show World.ownsMap _ _ _ _ _ _ _ from hOwn.out)).mono ?_; rintro e w2 ⟨rfl, hown2, hg2⟩
       have hOwn2 : Aside _ := hown2
       have hG2 : Aside _ := hg2
       clear hown2 hg2)
    | (go_at_call 64; refine (Try.keys64 (some b) _).mono ?_; rintro e w3 ⟨rfl, rfl⟩)
    | (go_at_call 63; refine (Try.sorted63 b 1000 (Lib.deleteFuncD stD D) stR _ (show World.ownsMap _ _ _ _ _ _ _ from hOwn2.out) (by have := hSz.out; unfold maxLen; omega) (by have := hSz.out; omega)).mono ?_; rintro e w4 ⟨v, ss, rfl, hperm, hrow, hnil, hbel⟩
       have hAll : Aside _ := And.intro hperm (And.intro hrow (And.intro hnil hbel))
       clear hperm hrow hnil hbel)
    | go_in)
  go_ret
  obtain ⟨hperm, hrow, hnil, hbel⟩ := hAll.out
  have hg := hG2.out
  refine ⟨w1, b, D, v, ss, _, rfl, hΦ.out, hperm, ?_, hrow, hnil, ?_⟩
  · have := hg.size; simp at this ⊢; omega
  · refine hg.andThen (row' := none) ?_ (fun j hj => by cases hj)
    exact ⟨hbel.os, hbel.tape, hbel.output, Nat.le_trans (by simp) hbel.size, fun k hk _ => (hbel.block k (by simp at hk ⊢; omega)).trans (Below.heap_alloc _ _ _ hk)⟩
end Go.Proofs
namespace Go.AM
open Go.Proofs Go.RowKit Go.Maps
/-- What Bares comes to, told of abstract heaps. -/
noncomputable def bareF (xs : List CV) (lk : Nat) (h : List AO) : Option (AV × List AO) := match xs with
  | [x] => match ev Try.prog tabB 1000 4 60 [x] lk h with
    | some (.v (.sc (.mp l)), h1) => match h1[l]? with
      | some (.map es) => match stsOf es with
        | some ls => if lk ≤ l ∧ ls.length ≤ 1000 then (if bares ls = [] then some (.v (.sc .nils), h1.set l .dead) else some (.v (.sc (.sl h1.length 0 (bares ls).length 1)), h1.set l .dead ++ [.rw 3 ((sortL (bares ls)).map (SV.int .i64))])) else none
        | none => none
      | _ => none
    | _ => none
  | _ => none
theorem bare_ok (_ : True) (hen : ∀ args w, (callFunc 23 args).run Try.prog w = .ok (.enter 23 args) w) : CallOk Try.prog 23 bareF := by
  intro g h w lock xs vals r h' H hv hr
  refine ⟨hen _ _, ?_⟩
  match xs, hr with
  | [x], hr =>
    obtain ⟨v0, rfl, hv0⟩ : ∃ v, vals = [v] ∧ CRel g h.length x v := by
      match vals, hv with
      | [v], hv => exact ⟨v, rfl, hv.1⟩
    simp only [bareF] at hr
    split at hr
    · rename_i l h1 hev
      split at hr
      · rename_i es hes
        split at hr
        · rename_i ls hls
          split at hr
          · rename_i hc
            have hC : ∀ W, (W = w ∨ W = w.drew ∨ W = w.drew.drew) → HRel g h W := fun W hW => by
              rcases hW with rfl | rfl | rfl
              · exact H
              · exact H.drew
              · exact H.drew.drew
            have hW' : ∀ W, (W = w ∨ W = w.drew ∨ W = w.drew.drew) → W.heap = w.heap ∧ W.os = w.os ∧ W.tape = w.tape ∧ W.output = w.output := fun W hW => by
              rcases hW with rfl | rfl | rfl <;> exact ⟨rfl, rfl, rfl, rfl⟩
            refine (bare23 (Φ := fun b D w1 => ∃ g1, b = g1.blk l ∧ (intKeys (Lib.deleteFuncD stD D)).Perm (bares ls) ∧ HRel g1 h1 w1 ∧ GExt h.length g g1 ∧ h.length ≤ h1.length ∧
              Keeps (fun b => ∃ l, lock ≤ l ∧ isRW h l ∧ g.blk l = b) w w1 ∧ ∀ l, lock ≤ l → isRW h1 l → (∃ l0, lock ≤ l0 ∧ isRW h l0 ∧ g.blk l0 = g1.blk l) ∨ w.heap.size ≤ g1.blk l) v0 w (fun W hW => ?_)).mono ?_
            · refine (ok60B g h W lock [x] [v0] _ h1 (hC W hW) ⟨hv0, trivial⟩ hev).2.mono ?_
              rintro e w1 ⟨v, g1, rfl, hvr, k1, k2, k3, k4, k5⟩
              obtain ⟨hll, rfl⟩ : l < h1.length ∧ v = .map (some (g1.blk l)) := hvr
              obtain ⟨D, d1, d2, d3⟩ := own_of k1 hes hls hc.2
              obtain ⟨q1, q2, q3, q4⟩ := hW' W hW
              rw [q1] at k5
              exact ⟨g1.blk l, D, rfl, d1, d3, g1, rfl, d2, k1, k2, k3, ⟨k4.os.trans q2, k4.tape.trans q3, k4.output.trans q4, by rw [← q1]; exact k4.size, fun k hk hn => by rw [← q1] at hk ⊢; exact k4.block k hk hn⟩, k5⟩
            · rintro e w4 ⟨w1, b, D, v, ss, B, rfl, ⟨g1, rfl, d2, k1, k2, k3, k4, k5⟩, hperm, hB, hrow, hnil, hg⟩
              have hp : ss.Perm (bares ls) := hperm.trans d2
              have hsort : ss.mergeSort (fun x y => decide (x ≤ y)) = sortL (bares ls) := mergeSort_of_perm_i hp
              have hlen := hp.length_eq
              have hRWl : isRW h1 l := ⟨_, hes, rfl⟩
              have hother : ∀ k, k < w1.heap.size → k ≠ g1.blk l → w4.heap[k]? = w1.heap[k]? := fun k hk hne => hg.block k hk (fun e => hne (Option.some.inj e))
              have hkill : HRel g1 (h1.set l .dead) w4 := by
                refine (k1.kill l).world fun j hj => ?_
                have hjl : j ≠ l := by
                  rintro rfl
                  obtain ⟨q, hq, hv⟩ := hj
                  rw [List.getElem?_set_self (isLive_lt hRWl.live)] at hq
                  obtain rfl := Option.some.inj hq
                  cases hv
                have hj1 : isLive h1 j := by
                  obtain ⟨q, hq, hv⟩ := hj
                  rw [List.getElem?_set_ne (Ne.symm hjl)] at hq
                  exact ⟨q, hq, hv⟩
                exact hother _ (k1.lt hj1) (fun e => k1.excl l j (Ne.symm hjl) hRWl hj1 e.symm)
              have hKeeps : Keeps (fun b => ∃ l, lock ≤ l ∧ isRW h l ∧ g.blk l = b) w w4 := by
                refine ⟨hg.os.trans k4.os, hg.tape.trans k4.tape, hg.output.trans k4.output, Nat.le_trans k4.size hg.size, fun k hk hn => ?_⟩
                rw [hother k (Nat.lt_of_lt_of_le hk k4.size) ?_, k4.block k hk hn]
                rintro rfl
                rcases k5 l hc.1 hRWl with h5 | h5
                · exact hn h5
                · omega
              have hold : ∀ j, isRW (h1.set l .dead) j → isRW h1 j := fun j ⟨q, hq, hv⟩ => by
                by_cases hjl : j = l
                · subst hjl; exact hRWl
                · rw [List.getElem?_set_ne (Ne.symm hjl)] at hq; exact ⟨q, hq, hv⟩
              split at hr
              · rename_i hnone
                obtain ⟨rfl, rfl⟩ := Prod.mk.inj (Option.some.inj hr)
                have hss : ss = [] := List.eq_nil_of_length_eq_zero (by rw [hlen, hnone]; rfl)
                obtain rfl := hnil.2 hss
                exact ⟨_, g1, rfl, rfl, hkill, k2, by rw [List.length_set]; exact k3, hKeeps, fun j hj1 hj2 => k5 j hj1 (hold j hj2)⟩
              · rename_i hsome
                obtain ⟨rfl, rfl⟩ := Prod.mk.inj (Option.some.inj hr)
                have hne : ss ≠ [] := fun e => hsome (List.eq_nil_of_length_eq_zero (by rw [← hlen, e]; rfl))
                obtain ⟨hrl, hrow⟩ := hrow
                rcases hrow with ⟨e, _⟩ | ⟨gb, cap, cur, rfl, hBg, hcur, hcap, hmaxc, hcs, htake⟩
                · exact absurd (hnil.1 e) hne
                · rw [hsort] at htake
                  have hlt : h1.length = (h1.set l .dead).length := (List.length_set ..).symm
                  refine ⟨_, g1.upd (h1.set l .dead).length gb 0 cap, rfl, ?_, ?_, ?_, ?_, hKeeps, ?_⟩
                  · show h1.length < _ ∧ _
                    refine ⟨by simp, cap, 0, none, by omega, by simp [G.upd], .inr ⟨by simp [G.upd], rfl⟩, ?_⟩
                    simp [G.upd, hlen]
                  · refine hkill.push _ _ _ _ (fun j hj e => ?_) ?_
                    · have hj1 : isLive h1 j := by
                        obtain ⟨q, hq, hv⟩ := hj
                        by_cases hjl : j = l
                        · subst hjl; exact hRWl.live
                        · rw [List.getElem?_set_ne (Ne.symm hjl)] at hq; exact ⟨q, hq, hv⟩
                      have := k1.lt hj1
                      omega
                    · refine ⟨cur, by simpa [G.upd] using hcur, by simp [G.upd, hcs], ?_, fun i x hx => ?_⟩
                      · have : (sortL (bares ls)).length = (bares ls).length := List.length_mergeSort _
                        simp [G.upd, this]; omega
                      · rw [List.getElem?_map] at hx
                        obtain ⟨y, hy, rfl⟩ := Option.map_eq_some_iff.1 hx
                        refine ⟨Value.int .i64 y, ?_, rfl⟩
                        have hi : i < (sortL (bares ls)).length := (List.getElem?_eq_some_iff.1 hy).1
                        have hsl : (sortL (bares ls)).length = (bares ls).length := List.length_mergeSort _
                        have h9 : (cur.toList.take (ss.length * 1))[i]? = some (Value.int .i64 y) := by rw [htake, List.getElem?_map, hy]; rfl
                        rw [List.getElem?_take_of_lt (by omega)] at h9
                        simpa [G.upd] using h9
                  · exact k2.trans (g1.upd_ext _ gb 0 cap) (by rw [List.length_set]; exact k3)
                  · simp; omega
                  · intro j hj1 hj2
                    rcases isRW_append hj2 with hj | ⟨rfl, _⟩
                    · have hj' := hold j hj
                      have hlt := isLive_lt hj'.live
                      have e : (g1.upd (h1.set l .dead).length gb 0 cap).blk j = g1.blk j := (g1.upd_ext _ gb 0 cap j (by rw [List.length_set]; exact hlt)).1
                      rw [e]; exact k5 j hj1 hj'
                    · refine .inr ?_
                      have := k4.size
                      show _ ≤ (g1.upd _ gb 0 cap).blk _
                      simp [G.upd]; omega
          · cases hr
        · cases hr
      · cases hr
    · cases hr
end Go.AM
