/- The abstract machine: '==' of whole values; keys of whole numbers in a struct. Conditions: none. -/
import Derived.Test.YtjhhjmngjmflaaaAmEq
import Derived.MapKept
set_option linter.unusedVariables false
set_option linter.unusedSimpArgs false
namespace Go.AM
section
variable {P : Program} {g : G} {h : List AO} {w : World} {n : Nat}

theorem eqn1 (d : Nat) {t e : TypeId} (b : Option Addr) (hu : P.underlying t = some (.pointer e)) : (Op.equalIn (d + 1) t (.pointer none) (.pointer b)).run P w = .ok b.isNone w := by simp [Op.equalIn, run_underlying hu]
theorem eqn2 (d : Nat) {t e : TypeId} (a : Addr) (hu : P.underlying t = some (.pointer e)) : (Op.equalIn (d + 1) t (.pointer (some a)) (.pointer none)).run P w = .ok false w := by simp [Op.equalIn, run_underlying hu]
theorem eqn3 (d : Nat) {t e : TypeId} (b : Option Addr) (i j i' j' : Nat) (hu : P.underlying t = some (.slice e)) : (Op.equalIn (d + 1) t (.slice none i j) (.slice b i' j')).run P w = .ok b.isNone w := by simp [Op.equalIn, run_underlying hu]
theorem eqn4 (d : Nat) {t e : TypeId} (a : Addr) (i j i' j' : Nat) (hu : P.underlying t = some (.slice e)) : (Op.equalIn (d + 1) t (.slice (some a) i j) (.slice none i' j')).run P w = .ok false w := by simp [Op.equalIn, run_underlying hu]
theorem eqn5 (d : Nat) {t k e : TypeId} (b : Option Nat) (hu : P.underlying t = some (.map k e)) : (Op.equalIn (d + 1) t (.map none) (.map b)).run P w = .ok b.isNone w := by simp [Op.equalIn, run_underlying hu]
theorem eqn6 (d : Nat) {t k e : TypeId} (a : Nat) (hu : P.underlying t = some (.map k e)) : (Op.equalIn (d + 1) t (.map (some a)) (.map none)).run P w = .ok false w := by simp [Op.equalIn, run_underlying hu]
theorem eqn7 (d : Nat) {t : TypeId} (a b : Bool) (hu : P.underlying t = some .bool) : (Op.equalIn (d + 1) t (.bool a) (.bool b)).run P w = .ok (a == b) w := by simp [Op.equalIn, run_underlying hu]
theorem eqA_sound {t : TypeId} {x y : AV} {u v : Value} {q : Bool} (hx : VRel g n x u) (hy : VRel g n y v) (hq : eqA P t x y = some q) :
    (∀ w : World, (Op.equal t u v).run P w = .ok q w) ∧ (∀ (w : World) op a b, (eqGuard op t a b u v).run P w = .ok () w) ∧ (binOp .eql t u v = (do pure (.bool (← Op.equal t u v)))) ∧ (binOp .neq t u v = (do pure (.bool (!(← Op.equal t u v))))) := by
  unfold eqA at hq
  split at hq
  · rename_i xs ys
    obtain ⟨A, rfl, hA⟩ := hx
    obtain ⟨B, rfl, hB⟩ := hy
    simp only [Option.bind_eq_some_iff] at hq
    obtain ⟨l, hl, hq⟩ := hq
    split at hq
    · rename_i hc
      have ok := flat_ok (P := P) (g := g) (n := n) 20 t l 9980 hl
      have hle := eqL_length hq
      refine ⟨fun w => ?_, fun w op a b => run_eqGuard_agg w op t a b A B hc.1, rfl, rfl⟩
      obtain ⟨u, v, h1, h2, h3⟩ := ok.2 w xs ys A B 0 q hA hB (by
        rw [List.drop_zero, List.drop_zero, List.take_of_length_le (by omega), List.take_of_length_le (by omega)]; exact hq)
      have e1 : A.size = l.length := by have := SRelL.length hA; simp at this; omega
      have e2 : B.size = l.length := by have := SRelL.length hB; simp at this; omega
      have hu : u = .agg A := by
        simp [part, run_isAgg' hc.2, run_sizeOf' ok.1] at h1
        rw [← h1]; simp [← e1]
      have hv : v = .agg B := by
        simp [part, run_isAgg' hc.2, run_sizeOf' ok.1] at h2
        rw [← h2]; simp [← e2]
      subst hu; subst hv
      exact h3
    · cases hq
  all_goals simp only [VRel, CRel, SRel] at hx hy
  all_goals first
    | cases hq
    | (obtain ⟨_, rfl⟩ := hx; subst hy)
    | (obtain ⟨_, _, _, _, _, _, _, rfl⟩ := hx; subst hy)
    | (obtain ⟨_, _, _, _, _, _, rfl⟩ := hx; subst hy)
    | (subst hx)
  all_goals (split at hq <;> first | cases hq | skip)
  all_goals rename_i hu
  all_goals (try simp only [SRel] at hy)
  all_goals first | (subst hy) | (obtain ⟨_, rfl⟩ := hy) | (obtain ⟨_, _, _, _, _, _, _, rfl⟩ := hy) | (obtain ⟨_, _, _, _, _, _, rfl⟩ := hy) | skip
  all_goals refine ⟨fun w => ?_, fun w op a b => by cases op <;> rfl, rfl, rfl⟩
  all_goals first
    | exact eqn1 9999 _ hu
    | exact eqn2 9999 _ hu
    | exact eqn3 9999 _ _ _ _ _ hu
    | exact eqn4 9999 _ _ _ _ _ hu
    | exact eqn5 9999 _ hu
    | exact eqn6 9999 _ hu
    | exact eqn7 9999 _ _ hu


/-! Keys of whole numbers. -/
theorem ints_srel : ∀ {ks : List SV} {vs us : List Value}, intsB ks = true → SRelL g n ks vs → SRelL g n ks us → vs = us
  | [], [], [], _, _, _ => rfl
  | [], _ :: _, _, _, h, _ => by simp [SRelL] at h
  | [], [], _ :: _, _, _, h => by simp [SRelL] at h
  | x :: ks, [], _, _, h, _ => by simp [SRelL] at h
  | x :: ks, _ :: _, [], _, _, h => by simp [SRelL] at h
  | x :: ks, v :: vs, u :: us, hi, h1, h2 => by
    unfold intsB at hi
    rw [List.all_cons, Bool.and_eq_true] at hi
    obtain ⟨a1, a2⟩ := h1
    obtain ⟨b1, b2⟩ := h2
    rw [ints_srel (ks := ks) hi.2 a2 b2]
    cases x <;> simp at hi
    simp only [SRel] at a1 b1
    rw [a1, b1]
theorem ints_inj : ∀ {ks bs : List SV} {vs : List Value}, intsB ks = true → intsB bs = true → SRelL g n ks vs → SRelL g n bs vs → ks = bs
  | [], [], _, _, _, _, _ => rfl
  | [], _ :: _, [], _, _, _, h => by simp [SRelL] at h
  | [], _ :: _, _ :: _, _, _, h, _ => by simp [SRelL] at h
  | _ :: _, [], [], _, _, h, _ => by simp [SRelL] at h
  | _ :: _, [], _ :: _, _, _, _, h => by simp [SRelL] at h
  | _ :: _, _ :: _, [], _, _, h, _ => by simp [SRelL] at h
  | x :: ks, y :: bs, v :: vs, h1, h2, r1, r2 => by
    unfold intsB at h1 h2
    rw [List.all_cons, Bool.and_eq_true] at h1 h2
    obtain ⟨a1, a2⟩ := r1
    obtain ⟨b1, b2⟩ := r2
    rw [ints_inj (ks := ks) (bs := bs) h1.2 h2.2 a2 b2]
    cases x <;> simp at h1
    cases y <;> simp at h2
    simp only [SRel] at a1 b1
    rw [a1] at b1
    cases b1; rfl
theorem eqL_ints : ∀ {l : List Nat} {ks bs : List SV} {q : Bool}, intsB ks = true → intsB bs = true → eqL l ks bs = some q → (q = true ↔ ks = bs)
  | [], [], [], q, _, _, h => by
    obtain rfl := Option.some.inj h
    simp
  | z :: l, x :: ks, y :: bs, q, h1, h2, h => by
    unfold intsB at h1 h2
    rw [List.all_cons, Bool.and_eq_true] at h1 h2
    simp only [eqL, Option.bind_eq_some_iff, Option.map_eq_some_iff] at h
    obtain ⟨q0, h0, r, hr, rfl⟩ := h
    have ih := eqL_ints (ks := ks) (bs := bs) h1.2 h2.2 hr
    cases x <;> simp at h1
    cases y <;> simp at h2
    rename_i k a k' b
    match z, h0 with
    | 0, h0 => simp [eqS] at h0
    | 1, h0 =>
      simp only [eqS] at h0
      split at h0
      · rename_i hkk
        obtain rfl := Option.some.inj h0
        subst hkk
        rw [Bool.and_eq_true, ih, beq_iff_eq]
        constructor
        · rintro ⟨rfl, rfl⟩; rfl
        · intro e; cases e; exact ⟨rfl, rfl⟩
      · cases h0
    | z + 2, h0 => cases z <;> simp [eqS] at h0
  | [], _ :: _, _, _, _, _, h => by simp [eqL] at h
  | [], [], _ :: _, _, _, _, h => by simp [eqL] at h
  | _ :: _, [], _, _, _, _, h => by simp [eqL] at h
  | _ :: _, _ :: _, [], _, _, _, h => by simp [eqL] at h
theorem eqA_ints {kt : TypeId} {ks bs : List SV} {q : Bool} (h1 : intsB ks = true) (h2 : intsB bs = true) (h : eqA P kt (.v (.ag ks)) (.v (.ag bs)) = some q) : (q = true ↔ ks = bs) := by
  simp only [eqA, Option.bind_eq_some_iff] at h
  obtain ⟨l, _, h⟩ := h
  split at h
  · exact eqL_ints h1 h2 h
  · cases h
theorem ints_same (m : Nat) : ∀ {ks : List SV} {vs : List Value}, intsB ks = true → SRelL g n ks vs → (vs.zip vs).all (fun x => Instr.sameBits m x.1 x.2) = true
  | [], [], _, _ => rfl
  | [], _ :: _, _, h => by simp [SRelL] at h
  | _ :: _, [], _, h => by simp [SRelL] at h
  | x :: ks, v :: vs, h1, r => by
    unfold intsB at h1
    rw [List.all_cons, Bool.and_eq_true] at h1
    obtain ⟨a1, a2⟩ := r
    rw [List.zip_cons_cons, List.all_cons, ints_same m (ks := ks) h1.2 a2]
    cases x <;> simp at h1
    simp only [SRel] at a1
    subst a1
    simp [Instr.sameBits]
theorem run_stays_ints {w : World} {ks : List SV} {A : Array Value} (h1 : intsB ks = true) (r : SRelL g n ks A.toList) : (Instr.keyThatStays (.agg A) (.agg A)).run P w = .ok (.agg A) w := by
  have : Instr.sameBits 10000 (.agg A) (.agg A) = true := by
    have key : ∀ m, Instr.sameBits (m + 1) (.agg A) (.agg A) = (A.size == A.size && (A.toList.zip A.toList).all fun (x, y) => Instr.sameBits m x y) := fun m => by rw [Instr.sameBits]
    rw [show (10000 : Nat) = 9999 + 1 from rfl, key, beq_self_eq_true, Bool.true_and]
    exact ints_same 9999 h1 r
  unfold Instr.keyThatStays
  rw [this]; rfl
theorem run_check_ints {w : World} {kt : TypeId} {ks : List SV} {A : Array Value} (hk : keyB P kt ks = true) (r : SRelL g n ks A.toList) (em : Bool) : (Instr.checkKey em 10000 kt (.agg A)).run P w = .ok () w := by
  unfold keyB at hk
  rw [Bool.and_eq_true] at hk
  obtain ⟨h1, h2⟩ := hk
  split at h2
  · rename_i fs hu
    rw [show (10000 : Nat) = 9999 + 1 from rfl, Instr.checkKey]
    simp only [Sem.run_bind, run_underlying hu, Result.andThen_ok]
    rw [← Array.forIn_toList]
    have hlen := SRelL.length r
    simp only [Array.length_toList] at hlen
    generalize fs.toList = L at h2
    induction L with
    | nil => simp
    | cons f L ih =>
      rw [List.all_cons, Bool.and_eq_true, Bool.and_eq_true, Bool.and_eq_true, decide_eq_true_eq, decide_eq_true_eq] at h2
      obtain ⟨⟨⟨f1, f2⟩, f3⟩, f4⟩ := h2
      split at f3
      · rename_i kk hf
        have hsc : aggT P f.type = some false := by simp [aggT, hf]
        have hp : (part f.type A f.offset).run P w = .ok A[f.offset] w := by
          simp [part, run_isAgg' hsc, Array.getElem?_eq_getElem (show f.offset < A.size by omega)]
        have hc : (Instr.checkKey em 9999 f.type A[f.offset]).run P w = .ok () w := by
          rw [show (9999 : Nat) = 9998 + 1 from rfl, Instr.checkKey]
          simp only [Sem.run_bind, run_underlying hf, Result.andThen_ok]
          first | rfl | (split <;> simp_all)
        simp only [List.forIn_cons, Sem.run_bind, f1, ne_eq, not_false_eq_true, if_true, Result.andThen_ok, hp, hc, Sem.run_pure]
        exact ih f4
      · cases f3
  · cases h2
theorem run_findKey_ints {w : World} {kt : TypeId} {ks : List SV} (A : Array Value) (ms : List MapEntry) (hk : keyB P kt ks = true) {r : Option (Nat × Value)} (hf : (Instr.findAsking kt (.agg A) ms 0).run P w = .ok r w) : (Instr.findKey kt (.agg A) ms).run P w = .ok r w := by
  unfold keyB at hk
  rw [Bool.and_eq_true] at hk
  obtain ⟨h1, h2⟩ := hk
  split at h2
  · rename_i fs hu
    simp only [Instr.findKey, Sem.run_bind, run_underlying hu, Result.andThen_ok]
    cases ms with
    | nil =>
      simp [Instr.findAsking] at hf
      simp [Instr.findNow, hf]
    | cons m ms => simp only [Instr.findNow, Instr.sameNow]; exact hf
  · cases h2
theorem findS_sound {kt : TypeId} {ks : List SV} {A : Array Value} (h1 : intsB ks = true) (hA : SRelL g n ks A.toList) : ∀ {es : List (CV × CV)} {ms : List MapEntry} {i : Nat} {r : Option (Nat × CV)}, MRel g n es ms → findS P kt ks es i = some r →
    (r = none ∧ (∀ w : World, (Instr.findAsking kt (.agg A) ms i).run P w = .ok none w) ∧ ∀ x ∈ ms, x.key ≠ .agg A) ∨
    ∃ j c e, r = some (i + j, c) ∧ (∀ w : World, (Instr.findAsking kt (.agg A) ms i).run P w = .ok (some (i + j, e.val)) w) ∧ ms[j]? = some e ∧ e.key = .agg A ∧ CRel g n c e.val ∧ j < es.length
  | [], [], i, r, _, hr => by
    obtain rfl := Option.some.inj hr
    exact .inl ⟨rfl, fun w => by simp [Instr.findAsking], fun x hx => by cases hx⟩
  | [], _ :: _, _, _, h, _ => by simp [MRel] at h
  | _ :: _, [], _, _, h, _ => by simp [MRel] at h
  | (x, v) :: es, m :: ms, i, r, h, hr => by
    cases x with
    | sc _ => simp [findS] at hr
    | ag bs =>
      simp only [findS] at hr
      split at hr
      · rename_i hb
        obtain ⟨q, hq, hr2⟩ := Option.bind_eq_some_iff.1 hr
        clear hr
        obtain ⟨⟨hk, hv⟩, ht⟩ := h
        obtain ⟨B, hmk, hB⟩ := hk
        have heq := (eqA_sound (P := P) (g := g) (n := n) (x := .v (.ag ks)) (y := .v (.ag bs)) (u := .agg A) (v := .agg B) ⟨A, rfl, hA⟩ ⟨B, rfl, hB⟩ hq).1
        have hiff := eqA_ints h1 hb hq
        cases q with
        | true =>
          obtain rfl := hiff.1 rfl
          have hAB : A = B := Array.ext' (ints_srel h1 hA hB)
          subst hAB
          change some (some (i, v)) = some r at hr2
          obtain rfl := Option.some.inj hr2
          refine .inr ⟨0, v, m, rfl, fun w => ?_, rfl, hmk, hv, by simp⟩
          simp [Instr.findAsking, hmk, heq w]
        | false =>
          change findS P kt ks es (i + 1) = some r at hr2
          have hf : ∀ r' (w : World), (Instr.findAsking kt (.agg A) ms (i + 1)).run P w = .ok r' w → (Instr.findAsking kt (.agg A) (m :: ms) i).run P w = .ok r' w := fun r' w h' => by
            simp [Instr.findAsking, hmk, heq w, h']
          have hne : m.key ≠ .agg A := fun e => by
            rw [hmk] at e
            obtain rfl : B = A := by cases e; rfl
            have := hiff.2 (ints_inj h1 hb hA hB)
            cases this
          rcases findS_sound h1 hA ht hr2 with ⟨e1, e2, e3⟩ | ⟨j, c, e, e1, e2, e3, e4, e5, e6⟩
          · refine .inl ⟨e1, fun w => hf _ w (e2 w), fun y hy => ?_⟩
            rcases List.mem_cons.1 hy with rfl | hy
            · exact hne
            · exact e3 y hy
          · refine .inr ⟨j + 1, c, e, ?_, fun w => ?_, by simpa using e3, e4, e5, by simp; omega⟩
            · rw [e1, show i + 1 + j = i + (j + 1) by omega]
            · rw [hf _ w (e2 w), show i + 1 + j = i + (j + 1) by omega]
      · cases hr
end
end Go.AM
