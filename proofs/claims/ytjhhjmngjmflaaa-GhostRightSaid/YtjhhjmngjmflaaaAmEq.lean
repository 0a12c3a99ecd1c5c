/- The abstract machine: '==' of whole values is what it is here. Conditions: none. -/
import Derived.Test.YtjhhjmngjmflaaaAmPurs
import Derived.Laws.StructEq
import Derived.ChangeKeysEq
set_option linter.unusedVariables false
set_option linter.unusedSimpArgs false
namespace Go.AM
section
variable {P : Program} {g : G} {n : Nat}

theorem eqL_length : ∀ {z : List Nat} {a c : List SV} {q : Bool}, eqL z a c = some q → z.length = a.length ∧ a.length = c.length
  | [], [], [], _, _ => ⟨rfl, rfl⟩
  | z :: zs, x :: xs, y :: ys, q, h => by
    simp only [eqL, Option.bind_eq_some_iff, Option.map_eq_some_iff] at h
    obtain ⟨q0, h0, r, hr, rfl⟩ := h
    obtain ⟨h1, h2⟩ := eqL_length hr
    simp [h1, h2]
  | [], _ :: _, _, _, h => by simp [eqL] at h
  | [], [], _ :: _, _, h => by simp [eqL] at h
  | _ :: _, [], _, _, h => by simp [eqL] at h
  | _ :: _, _ :: _, [], _, h => by simp [eqL] at h
theorem eqL_append : ∀ {z1 z2 : List Nat} {a c : List SV} {q : Bool}, eqL (z1 ++ z2) a c = some q → ∃ q1 q2, eqL z1 (a.take z1.length) (c.take z1.length) = some q1 ∧ eqL z2 (a.drop z1.length) (c.drop z1.length) = some q2 ∧ q = (q1 && q2)
  | [], z2, a, c, q, h => ⟨true, q, by simp [eqL], by simpa using h, by simp⟩
  | z :: z1, z2, x :: a, y :: c, q, h => by
    simp only [List.cons_append, eqL, Option.bind_eq_some_iff, Option.map_eq_some_iff] at h
    obtain ⟨q0, h0, r, hr, rfl⟩ := h
    obtain ⟨q1, q2, h1, h2, rfl⟩ := eqL_append hr
    exact ⟨q0 && q1, q2, by simp [eqL, h0, h1], by simpa using h2, by simp [Bool.and_assoc]⟩
  | z :: z1, z2, [], c, q, h => by simp [eqL] at h
  | z :: z1, z2, x :: a, [], q, h => by simp [eqL] at h
theorem eqL_one {z : Nat} {a c : List SV} {q : Bool} (h : eqL [z] a c = some q) : ∃ x y, a = [x] ∧ c = [y] ∧ eqS z x y = some q := by
  match a, c, h with
  | [x], [y], h =>
    simp only [eqL, Option.bind_eq_some_iff, Option.map_eq_some_iff] at h
    obtain ⟨q0, h0, r, hr, rfl⟩ := h
    obtain rfl := Option.some.inj hr
    exact ⟨x, y, rfl, rfl, by simpa using h0⟩
  | [], c, h => simp [eqL] at h
  | x :: a, [], h => simp [eqL] at h
  | x :: x' :: a, [y], h => simp [eqL] at h
  | [x], y :: y' :: c, h => simp [eqL] at h
  | x :: x' :: a, y :: y' :: c, h => simp [eqL] at h

/-- At a place among cells, two values of a type, compared. -/
def EqOk (P : Program) (g : G) (n : Nat) (D : Nat) (t : TypeId) (l : List Nat) : Prop :=
  szT P t = some l.length ∧ ∀ (w : World) (xs ys : List SV) (A B : Array Value) (o : Nat) (q : Bool), SRelL g n xs A.toList → SRelL g n ys B.toList → eqL l ((xs.drop o).take l.length) ((ys.drop o).take l.length) = some q →
    ∃ u v, (part t A o).run P w = .ok u w ∧ (part t B o).run P w = .ok v w ∧ (Op.equalIn D t u v).run P w = .ok q w

theorem scalar_ok {D : Nat} {t : TypeId} {z : Nat} (hs : szT P t = some 1) (ha : aggT P t = some false)
    (heq : ∀ (w : World) (x y : SV) (u v : Value) (q : Bool), SRel g n x u → SRel g n y v → eqS z x y = some q → (Op.equalIn D t u v).run P w = .ok q w) : EqOk P g n D t [z] := by
  refine ⟨hs, fun w xs ys A B o q hA hB hq => ?_⟩
  obtain ⟨x, y, hx, hy, hz⟩ := eqL_one hq
  have gx : xs[o]? = some x := by
    have : ((xs.drop o).take [z].length)[0]? = some x := by rw [hx]; rfl
    simpa [List.getElem?_take, List.getElem?_drop] using this
  have gy : ys[o]? = some y := by
    have : ((ys.drop o).take [z].length)[0]? = some y := by rw [hy]; rfl
    simpa [List.getElem?_take, List.getElem?_drop] using this
  obtain ⟨u, h1, h2⟩ := SRelL.get hA o x gx
  obtain ⟨v, h3, h4⟩ := SRelL.get hB o y gy
  have h1' : A[o]? = some u := by rw [← Array.getElem?_toList]; exact h1
  have h3' : B[o]? = some v := by rw [← Array.getElem?_toList]; exact h3
  exact ⟨u, v, by simp [part, run_isAgg' ha, h1'], by simp [part, run_isAgg' ha, h3'], heq w x y u v q h2 h4 hz⟩

theorem srel_window {xs : List SV} {A : Array Value} {o m : Nat} (hA : SRelL g n xs A.toList) : SRelL g n ((xs.drop o).take m) (A.extract o (o + m)).toList := by
  have hl := SRelL.length hA
  simp only [Array.length_toList] at hl
  refine SRelL.of (by simp; omega) fun i x hx => ?_
  rw [List.getElem?_take] at hx
  split at hx
  · rw [List.getElem?_drop] at hx
    obtain ⟨u, h1, h2⟩ := SRelL.get hA _ _ hx
    refine ⟨u, ?_, h2⟩
    rw [Array.toList_extract, List.extract_eq_take_drop, List.getElem?_take, if_pos (by omega), List.getElem?_drop]
    exact h1
  · cases hx

theorem fields_ok {D : Nat} {F : TypeId → Option (List Nat)} (hF : ∀ t l, F t = some l → EqOk P g n D t l) (w : World) (xs ys : List SV) (A B : Array Value) (hA : SRelL g n xs A.toList) (hB : SRelL g n ys B.toList) :
    ∀ (fs : List Field) (k : Nat) (l : List Nat) (q : Bool), flatFs F k fs = some l → eqL l (xs.drop k) (ys.drop k) = some q → (Op.eqFields D A B fs).run P w = .ok q w
  | [], k, l, q, h, hq => by
    obtain rfl := Option.some.inj h
    have := eqL_length hq
    match xs.drop k, ys.drop k, hq with
    | [], [], hq => obtain rfl := Option.some.inj hq; simp [Op.eqFields]
    | _ :: _, _, hq => simp [eqL] at hq
    | [], _ :: _, hq => simp [eqL] at hq
  | f :: fs, k, l, q, h, hq => by
    simp only [flatFs] at h
    split at h
    · rename_i hc
      simp only [Option.bind_eq_some_iff, Option.map_eq_some_iff] at h
      obtain ⟨m, hm, l', hl', rfl⟩ := h
      obtain ⟨q1, q2, h1, h2, rfl⟩ := eqL_append hq
      obtain ⟨u, v, h3, h4, h5⟩ := (hF _ _ hm).2 w xs ys A B k q1 hA hB h1
      rw [List.drop_drop, List.drop_drop] at h2
      have ih := fields_ok hF w xs ys A B hA hB fs (k + m.length) l' q2 hl' h2
      rw [← hc.2] at h3 h4
      simp only [Op.eqFields, ne_eq, hc.1, not_false_eq_true, if_true, Sem.run_bind, h3, h4, h5, Result.andThen_ok]
      cases q1
      · simp
      · simpa using ih
    · cases h

theorem items_ok {D : Nat} {e : TypeId} {l : List Nat} (hF : EqOk P g n D e l) (w : World) (xs ys : List SV) (A B : Array Value) (hA : SRelL g n xs A.toList) (hB : SRelL g n ys B.toList) :
    ∀ (m k : Nat) (q : Bool), eqL (List.replicate m l).flatten (xs.drop (k * l.length)) (ys.drop (k * l.length)) = some q → (Op.eqItems D e l.length A B (List.range' k m)).run P w = .ok q w
  | 0, k, q, hq => by
    simp only [List.replicate_zero, List.flatten_nil] at hq
    match xs.drop (k * l.length), ys.drop (k * l.length), hq with
    | [], [], hq => obtain rfl := Option.some.inj hq; simp [Op.eqItems]
    | _ :: _, _, hq => simp [eqL] at hq
    | [], _ :: _, hq => simp [eqL] at hq
  | m + 1, k, q, hq => by
    rw [List.replicate_succ, List.flatten_cons] at hq
    obtain ⟨q1, q2, h1, h2, rfl⟩ := eqL_append hq
    obtain ⟨u, v, h3, h4, h5⟩ := hF.2 w xs ys A B _ q1 hA hB h1
    rw [List.drop_drop, List.drop_drop] at h2
    have hk : k * l.length + l.length = (k + 1) * l.length := by rw [Nat.add_mul, Nat.one_mul]
    rw [hk] at h2
    have ih := items_ok hF w xs ys A B hA hB m (k + 1) q2 h2
    rw [List.range'_succ]
    simp only [Op.eqItems, Sem.run_bind, h3, h4, h5, Result.andThen_ok]
    cases q1
    · simp
    · simpa using ih

theorem szT_info {t : TypeId} {m : Nat} (h : szT P t = some m) : ∃ i, P.info? t = some i ∧ P.cellsOf t = m := by
  unfold szT at h
  obtain ⟨i, hi, rfl⟩ := Option.map_eq_some_iff.1 h
  exact ⟨i, hi, by simp [Program.cellsOf, hi]⟩
theorem flat_ok : ∀ (d : Nat) (t : TypeId) (l : List Nat) (k : Nat), flatT P d t = some l → EqOk P g n (k + d) t l
  | 0, _, _, _, h => by simp [flatT] at h
  | d + 1, t, l, k, h => by
    simp only [flatT] at h
    split at h
    · rename_i hu
      split at h
      · rename_i hs
        obtain rfl := Option.some.inj h
        refine scalar_ok hs (by simp [aggT, hu]) fun w x y u v q hx hy hq => ?_
        unfold eqS at hq
        split at hq <;> first | cases hq | skip
        all_goals simp_all
        all_goals (simp only [SRel] at hx hy; subst hx; subst hy; first | (rw [← hq]; exact run_equalIn_bool' w (k + d) t _ _ hu) | exact run_equalIn_bool' w (k + d) t _ _ hu)
      · cases h
    · rename_i kk hu
      split at h
      · rename_i hs
        obtain rfl := Option.some.inj h
        refine scalar_ok hs (by simp [aggT, hu]) fun w x y u v q hx hy hq => ?_
        unfold eqS at hq
        split at hq <;> first | cases hq | skip
        all_goals simp_all
        all_goals (simp only [SRel] at hx hy; subst hx; subst hy; rw [← hq.2, ← hq.1]; exact run_equalIn_int w (k + d) t _ kk _ _ hu)
      · cases h
    · rename_i hu
      split at h
      · rename_i hs
        obtain rfl := Option.some.inj h
        refine scalar_ok hs (by simp [aggT, hu]) fun w x y u v q hx hy hq => ?_
        unfold eqS at hq
        split at hq <;> first | cases hq | skip
        all_goals simp_all
        all_goals (simp only [SRel] at hx hy; subst hx; subst hy; first | (rw [← hq]; exact run_equalIn_string w (k + d) t _ _ hu) | exact run_equalIn_string w (k + d) t _ _ hu)
      · cases h
    · rename_i fs hu
      simp only [Option.bind_eq_some_iff] at h
      obtain ⟨l', hl', h⟩ := h
      split at h
      · rename_i hc
        obtain rfl := Option.some.inj h
        refine ⟨hc.2, fun w xs ys A B o q hA hB hq => ?_⟩
        have hag : aggT P t = some true := by simp [aggT, hu]
        refine ⟨.agg (A.extract o (o + l'.length)), .agg (B.extract o (o + l'.length)), by simp [part, run_isAgg' hag, run_sizeOf' hc.2], by simp [part, run_isAgg' hag, run_sizeOf' hc.2], ?_⟩
        have hfs : P.fieldsOf t = fs := by simp [Program.fieldsOf, hu]
        rw [show k + (d + 1) = (k + d) + 1 from rfl, run_equalIn_struct w (k + d) t _ _ (by rw [hfs]; exact hu) hc.1, hfs]
        exact fields_ok (F := flatT P d) (fun t l hl => flat_ok d t l k hl) w _ _ _ _ (srel_window hA) (srel_window hB) fs.toList 0 l' q hl' (by simpa using hq)
      · cases h
    · rename_i m e hu
      simp only [Option.bind_eq_some_iff] at h
      obtain ⟨l', hl', h⟩ := h
      split at h
      · rename_i hc
        obtain rfl := Option.some.inj h
        have hlen : (List.replicate m l').flatten.length = m * l'.length := by simp
        have hag : aggT P t = some true := by simp [aggT, hu]
        have hF := flat_ok d e l' k hl'
        obtain ⟨i, hi, hci⟩ := szT_info hF.1
        refine ⟨by rw [hlen]; exact hc, fun w xs ys A B o q hA hB hq => ?_⟩
        rw [hlen] at hq
        refine ⟨.agg (A.extract o (o + m * l'.length)), .agg (B.extract o (o + m * l'.length)), by simp [part, run_isAgg' hag, run_sizeOf' hc], by simp [part, run_isAgg' hag, run_sizeOf' hc], ?_⟩
        rw [show k + (d + 1) = (k + d) + 1 from rfl, run_equalIn_array w (k + d) _ _ hu hi, hci, List.range_eq_range']
        exact items_ok hF w _ _ _ _ (srel_window hA) (srel_window hB) m 0 q (by simpa using hq)
      · cases h
    · cases h
end
end Go.AM
