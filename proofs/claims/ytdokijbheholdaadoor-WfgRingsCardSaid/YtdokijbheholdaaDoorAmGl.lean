/- The abstract machine: a table of the library's in its variable, and math/bits.TrailingZeros64 by the kit's contract. Conditions: none. -/
import Derived.Test.YtdokijbheholdaaDoorAmEv
import Derived.Shelf.Spec.TrailingZeros
set_option linter.unusedVariables false
set_option linter.unusedSimpArgs false
namespace Go.AM
open Go.Shelf Go.Proofs
/-- Cells that are a table of bytes. -/
def eqTab : List SV → List Nat → Bool
  | [], [] => true
  | .int .u8 n :: cs, k :: ks => decide (n = (k : Int)) && eqTab cs ks
  | _, _ => false
theorem eqTab_get : ∀ (cs : List SV) (ks : List Nat), eqTab cs ks = true → ∀ (i : Nat) k, ks[i]? = some k → cs[i]? = some (.int .u8 (k : Nat))
  | [], [], _, i, k, h => by simp at h
  | c :: cs, k :: ks, h, i, q, hi => by
    cases c with
    | int kk n =>
      cases kk <;> simp only [eqTab] at h <;> try cases h
      simp only [Bool.and_eq_true, decide_eq_true_eq] at h
      obtain ⟨rfl, h2⟩ := h
      cases i with
      | zero => obtain rfl := Option.some.inj hi; rfl
      | succ i => exact eqTab_get cs ks h2 i q hi
    | _ => simp only [eqTab] at h; cases h
  | [], _ :: _, h, _, _, _ => by simp only [eqTab] at h; cases h
  | c :: cs, [], h, _, _, _ => by
    cases c with
    | int kk n => cases kk <;> simp only [eqTab] at h <;> cases h
    | _ => simp only [eqTab] at h; cases h
/-- The heap's first block is the variable's. -/
def tabB (b : Nat) : List AO → Bool
  | .gl b' cs :: _ => decide (b' = b) && eqTab cs Lib.deBruijn64tab
  | _ => false
def tzF (b : Nat) (xs : List CV) (lk : Nat) (h : List AO) : Option (AV × List AO) := match xs with
  | [.sc (.int .u64 x)] => if tabB b h = true ∧ 0 ≤ x ∧ x < 18446744073709551616 then some (.v (.sc (.int .i64 (Lib.ctz 64 x.toNat : Nat))), h) else none
  | _ => none
theorem tab_at {b : Nat} {g : G} {h : List AO} {w : World} (H : HRel g h w) (ht : tabB b h = true) : TabAt b Lib.deBruijn64tab w := by
  match h, ht with
  | .gl b' cs :: h', ht =>
    simp only [tabB, Bool.and_eq_true, decide_eq_true_eq] at ht
    obtain ⟨rfl, h2⟩ := ht
    obtain ⟨h3, h4, h5⟩ := H.obj 0 _ rfl
    intro j hj
    have hk : Lib.deBruijn64tab[j]? = some (Lib.deBruijn64tab.getD j 0) := by rw [List.getElem?_eq_getElem hj, List.getD_eq_getElem?_getD, List.getElem?_eq_getElem hj]; rfl
    obtain ⟨v, e1, e2⟩ := h5 j _ (eqTab_get cs _ h2 j _ hk)
    rw [h3, h4, Nat.zero_add] at e1
    obtain rfl : v = .int .u8 ((Lib.deBruijn64tab.getD j 0 : Nat) : Int) := e2
    exact e1
theorem tz_ok {P : Program} {ρ : Ren} (L : Lays7.n29 P ρ) (hen : ∀ args w, (callFunc (ρ.f 29) args).run P w = .ok (.enter (ρ.f 29) args) w) : CallOk P (ρ.f 29) (tzF (ρ.g 1)) := by
  intro g h w lock xs vals r h' H hv hr
  refine ⟨hen _ _, ?_⟩
  match xs, hr with
  | [.sc (.int .u64 x)], hr =>
    simp only [tzF] at hr
    split at hr
    · rename_i hc
      obtain ⟨ht, h0, h1⟩ := hc
      obtain ⟨rfl, rfl⟩ := Prod.mk.inj (Option.some.inj hr)
      obtain ⟨v, rfl, hvv⟩ : ∃ v, vals = [v] ∧ v = .int .u64 x := by
        match vals, hv with
        | [v], hv => exact ⟨v, rfl, hv.1⟩
      subst hvv
      obtain ⟨n, rfl⟩ := Int.eq_ofNat_of_zero_le h0
      refine (Any7.bits_TrailingZeros64 L n (by omega) w fun _ => tab_at H ht).mono ?_
      rintro e w' ⟨rfl, rfl⟩
      exact ⟨_, g, rfl, rfl, H, GExt.refl _ _, Nat.le_refl _, Keeps.refl _ _, fun l a b => .inl ⟨l, a, b, rfl⟩⟩
    · cases hr
/-- A function without arguments, over the table alone. -/
def closedG (b : Nat) (r : AV) : List CV → Nat → List AO → Option (AV × List AO) := fun xs _ h => match xs with | [] => if tabB b h = true then some (r, h) else none | _ => none
theorem callOk_closedG {P : Program} {f : FuncId} {fn : Func} {c : Code} {r : AV} (b : Nat) (hf : P.funcs[f]? = some fn) (hb : fn.body = some c) (hn : (fn.name == "runtime.NumGoroutine") = false)
    (hany : P.follows .mixedOrders = true) {E : Ext} (hE : ExtOk P E) {er : Nat → List Nat} {dr : Nat → Option Way} (hdr : drOk dr c = true) {k : Nat}
    (hfree : (freeA r).isSome = true) (hrun : ((runA ⟨P, E, 1, k, er, dr⟩ fn c [] [.gl b (Lib.deBruijn64tab.map fun x => SV.int .u8 (x : Nat))]).map (·.1)) = some r) :
    CallOk P f (closedG b r) := by
  intro g h w lock xs vals r' h' H hv hr
  match xs, vals, hv, hr with
  | [], [], hv, hr =>
    simp only [closedG] at hr
    split at hr
    · rename_i ht
      obtain ⟨rfl, rfl⟩ := Prod.mk.inj (Option.some.inj hr)
      obtain ⟨⟨r1, h1⟩, hrun1, he⟩ := Option.map_eq_some_iff.1 hrun
      obtain rfl : r1 = r := he
      obtain ⟨u, hu⟩ := Option.isSome_iff_exists.1 hfree
      have hT := tab_at H ht
      have hblk : g.blk 0 = b ∧ g.off 0 = 0 := by
        match h, ht with
        | .gl b' cs :: h', ht =>
          simp only [tabB, Bool.and_eq_true, decide_eq_true_eq] at ht
          obtain ⟨h3, h4, h5⟩ := H.obj 0 _ rfl
          exact ⟨h3.trans ht.1, h4⟩
      have H0 : HRel g [.gl b (Lib.deBruijn64tab.map fun x => SV.int .u8 (x : Nat))] w := by
        refine ⟨fun l o hl => ?_, fun l l' _ a _ => ?_⟩
        · cases l with
          | zero =>
            obtain rfl : AO.gl b (Lib.deBruijn64tab.map fun x => SV.int .u8 (x : Nat)) = o := Option.some.inj hl
            refine ⟨hblk.1, hblk.2, fun i x hx => ?_⟩
            rw [List.getElem?_map] at hx
            obtain ⟨q, hq, rfl⟩ := Option.map_eq_some_iff.1 hx
            have hi := (List.getElem?_eq_some_iff.1 hq).1
            refine ⟨_, ?_, rfl⟩
            rw [hblk.1, hblk.2, Nat.zero_add, hT i hi, List.getD_eq_getElem?_getD, hq]; rfl
          | succ l => simp at hl
        · obtain ⟨o, ho, hr⟩ := a
          cases l with
          | zero => obtain rfl := Option.some.inj ho; simp [AO.isRW] at hr
          | succ l => simp at ho
      have hno : ∀ b', ¬ ∃ l, 1 ≤ l ∧ isRW [AO.gl b (Lib.deBruijn64tab.map fun x => SV.int .u8 (x : Nat))] l ∧ g.blk l = b' := fun b' ⟨l, a1, a2, _⟩ => by
        obtain ⟨o, ho, _⟩ := a2
        cases l with
        | zero => omega
        | succ l => simp at ho
      refine ⟨enters_of hf hn (by rw [hb]; rfl) _ _, (run_sound (V := ⟨P, E, 1, k, er, dr⟩) (xs := []) (vals := []) hE hany hf hb hdr H0 trivial hrun1).mono ?_⟩
      rintro e w' ⟨v, g', rfl, k1, k2, k3, k4, k5, k6⟩
      have hlater : Later w w' := ⟨k5.os, k5.tape, k5.output, k5.size, fun k hk _ => k5.block k hk (hno k)⟩
      refine ⟨v, g, rfl, ?_, H.world fun l hl => hlater.block _ (H.lt hl) (fun h => h), GExt.refl _ _, Nat.le_refl _, ⟨k5.os, k5.tape, k5.output, k5.size, fun k hk _ => k5.block k hk (hno k)⟩, fun l a b => .inl ⟨l, a, b, rfl⟩⟩
      rw [freeA_rel hu k1]
      exact freeA_mk hu
    · cases hr
  | _ :: _, _, hv, hr => cases hr
  | [], _ :: _, hv, _ => simp [CRelL] at hv
end Go.AM
