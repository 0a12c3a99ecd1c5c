/- Orders: ranks, and the next one; of lists of numbers alone. Conditions: none. -/
import Derived.Test.YtdokijbheholdaaInMath
set_option linter.unusedVariables false
namespace Go.AM

def dec1 (t : Nat) (l : List Nat) : List Nat := l.set t (l.getD t 0 - 1)
theorem dec1_len (t : Nat) (l : List Nat) : (dec1 t l).length = l.length := by simp [dec1]
/-- The rank of an order among those of its counts. -/
def rankI : List Int → List Nat → Nat
  | [], _ => 0
  | t :: r, l => sumT 0 l t.toNat + rankI r (dec1 t.toNat l)
/-- An order of counts. -/
def Ord (r : List Int) (l : List Nat) : Prop := (∀ t ∈ r, 0 ≤ t ∧ t < l.length) ∧ ∀ v, v < l.length → l.getD v 0 = r.count ((v : Nat) : Int)

theorem getD_set (l : List Nat) (i v x : Nat) (hi : i < l.length) : (l.set i x).getD v 0 = if v = i then x else l.getD v 0 := by
  simp only [List.getD_eq_getElem?_getD, List.getElem?_set]
  by_cases h : i = v
  · subst h; simp [hi]
  · rw [if_neg h, if_neg (Ne.symm h)]
theorem Ord.tail {t : Int} {r : List Int} {l : List Nat} (h : Ord (t :: r) l) : Ord r (dec1 t.toNat l) := by
  obtain ⟨h1, h2⟩ := h
  have ht := h1 t List.mem_cons_self
  refine ⟨fun x hx => by rw [dec1_len]; exact h1 x (List.mem_cons_of_mem _ hx), fun v hv => ?_⟩
  rw [dec1_len] at hv
  have h3 := h2 v hv
  unfold dec1
  rw [getD_set _ _ _ _ (by omega)]
  rw [List.count_cons] at h3
  by_cases hvt : v = t.toNat
  · rw [if_pos hvt, ← hvt, h3]
    have : (t == ((v : Nat) : Int)) = true := by rw [hvt]; simp; omega
    rw [if_pos this]; omega
  · rw [if_neg hvt, h3]
    have : (t == ((v : Nat) : Int)) = false := by rw [beq_eq_false_iff_ne]; intro e; omega
    rw [this]; simp
theorem Ord.head {t : Int} {r : List Int} {l : List Nat} (h : Ord (t :: r) l) : 0 ≤ t ∧ t.toNat < l.length ∧ 0 < l.getD t.toNat 0 := by
  obtain ⟨h1, h2⟩ := h
  have ht := h1 t List.mem_cons_self
  have h3 := h2 t.toNat (by omega)
  refine ⟨ht.1, by omega, ?_⟩
  rw [h3, List.count_cons]
  have : (t == ((t.toNat : Nat) : Int)) = true := by simp; omega
  rw [if_pos this]; omega
theorem sumN_zero : ∀ l : List Nat, (∀ v, v < l.length → l.getD v 0 = 0) → sumN l = 0
  | [], _ => rfl
  | a :: l, h => by
    have h0 := h 0 (by simp)
    have ih := sumN_zero l fun v hv => by have := h (v + 1) (by simp; omega); simpa using this
    simp only [List.getD_cons_zero] at h0
    show a + sumN l = 0
    omega
theorem sumN_dec {l : List Nat} {t : Nat} (h1 : t < l.length) (h2 : 0 < l.getD t 0) : sumN (dec1 t l) + 1 = sumN l := by
  have := sumN_set l t (l.getD t 0 - 1) h1
  unfold dec1; omega
theorem Ord.sum : ∀ {r : List Int} {l : List Nat}, Ord r l → sumN l = r.length
  | [], l, h => sumN_zero l fun v hv => by simpa using h.2 v hv
  | t :: r, l, h => by
    have h1 := h.head
    have h2 := sumN_dec h1.2.1 h1.2.2
    have h3 := Ord.sum h.tail
    simp only [List.length_cons]
    omega
theorem sumT_step {l : List Nat} {t : Nat} (h : 0 < l.getD t 0) : sumT 0 l (t + 1) = sumT 0 l t + multi 0 (dec1 t l) := by
  show sumT 0 l t + term 0 l t = _
  unfold term dec1; rw [if_neg (by omega)]
theorem sumT_flat {l : List Nat} {t : Nat} : ∀ u, t ≤ u → (∀ v, t ≤ v → v < u → l.getD v 0 = 0) → sumT 0 l u = sumT 0 l t
  | 0, h, _ => by obtain rfl : t = 0 := by omega
                  rfl
  | u + 1, h, hz => by
    rcases Nat.eq_or_lt_of_le h with rfl | h
    · rfl
    · have ih := sumT_flat u (by omega) fun v h1 h2 => hz v h1 (by omega)
      show sumT 0 l u + term 0 l u = _
      rw [ih]; unfold term; rw [if_pos (hz u (by omega) (by omega))]; rfl
theorem sumT_up {l : List Nat} {i n : Nat} (h : i ≤ n) : sumT 0 l i ≤ sumT 0 l n := by
  induction n with
  | zero => obtain rfl : i = 0 := by omega
            exact Nat.le_refl _
  | succ n ih =>
    rcases Nat.lt_or_ge i (n + 1) with h1 | h1
    · exact Nat.le_trans (ih (by omega)) (Nat.le_add_right _ _)
    · obtain rfl : i = n + 1 := by omega
      exact Nat.le_refl _
theorem rank_lt : ∀ {r : List Int} {l : List Nat}, Ord r l → rankI r l < multi 0 l
  | [], l, h => by rw [multi_none l 0 h.sum]; exact Nat.zero_lt_one
  | t :: r, l, h => by
    have h1 := h.head
    have ih := rank_lt h.tail
    have h2 := sumT_step h1.2.2
    have h3 : sumT 0 l (t.toNat + 1) ≤ sumT 0 l l.length := sumT_up (by omega)
    have h4 := total_law l (by rw [h.sum]; simp)
    show sumT 0 l t.toNat + rankI r (dec1 t.toNat l) < _
    omega
/-- Not rising. -/
def Desc (r : List Int) : Prop := r.Pairwise (· ≥ ·)
def Asc (r : List Int) : Prop := r.Pairwise (· ≤ ·)
theorem count_none {r : List Int} {x : Int} (h : ∀ y ∈ r, y ≠ x) : r.count x = 0 := List.count_eq_zero.2 fun hx => h x hx rfl
theorem rank_asc : ∀ {r : List Int} {l : List Nat}, Ord r l → Asc r → rankI r l = 0
  | [], l, h, _ => rfl
  | t :: r, l, h, ha => by
    obtain ⟨ha1, ha2⟩ := List.pairwise_cons.1 ha
    have h1 := h.head
    show sumT 0 l t.toNat + rankI r (dec1 t.toNat l) = 0
    rw [rank_asc h.tail ha2, sumT_flat (t := 0) t.toNat (by omega) fun v _ hv => ?_]
    · rfl
    · rw [h.2 v (by omega)]
      refine count_none fun y hy => ?_
      rcases List.mem_cons.1 hy with rfl | hy
      · omega
      · have := ha1 y hy; omega
theorem rank_desc : ∀ {r : List Int} {l : List Nat}, Ord r l → Desc r → rankI r l + 1 = multi 0 l
  | [], l, h, _ => by rw [multi_none l 0 h.sum]; rfl
  | t :: r, l, h, ha => by
    obtain ⟨ha1, ha2⟩ := List.pairwise_cons.1 ha
    have h1 := h.head
    have ih := rank_desc h.tail ha2
    have h2 := sumT_step h1.2.2
    have h4 := total_law l (by rw [h.sum]; simp)
    have h5 : sumT 0 l l.length = sumT 0 l (t.toNat + 1) := sumT_flat l.length (by omega) fun v hv1 hv2 => by
      rw [h.2 v hv2]
      refine count_none fun y hy => ?_
      rcases List.mem_cons.1 hy with rfl | hy
      · omega
      · have := ha1 y hy; omega
    show sumT 0 l t.toNat + rankI r (dec1 t.toNat l) + 1 = _
    omega
theorem Ord.perm {r x : List Int} {l : List Nat} (h : Ord r l) (p : r.Perm x) : Ord x l :=
  ⟨fun t ht => h.1 t (p.mem_iff.2 ht), fun v hv => by rw [h.2 v hv]; exact p.count_eq _⟩
/-- The greater ones ahead, the others: of what does not rise. -/
def swapS (t : Int) (r : List Int) : Option (List Int) :=
  match (r.takeWhile (decide <| t < ·)).getLast? with
  | none => none
  | some u => some (u :: ((r.takeWhile (decide <| t < ·)).dropLast ++ t :: r.dropWhile (decide <| t < ·)).reverse)
/-- The next one. -/
def nextI : List Int → Option (List Int)
  | [] => none
  | t :: r => match nextI r with | some x => some (t :: x) | none => swapS t r
theorem swapS_none {t : Int} {r : List Int} (h : ∀ y ∈ r, y ≤ t) : swapS t r = none := by
  unfold swapS
  have : r.takeWhile (decide <| t < ·) = [] := by
    cases r with
    | nil => rfl
    | cons a r => rw [List.takeWhile_cons_of_neg]; have := h a List.mem_cons_self; simp; omega
  rw [this]; rfl
theorem nextI_desc : ∀ {r : List Int}, Desc r → nextI r = none
  | [], _ => rfl
  | t :: r, h => by
    obtain ⟨h1, h2⟩ := List.pairwise_cons.1 h
    unfold nextI
    rw [nextI_desc h2]
    exact swapS_none h1
theorem takeWhile_cut {t : Int} : ∀ (a : List Int) (b : List Int), (∀ y ∈ a, t < y) → (∀ y ∈ b, y ≤ t) → (a ++ b).takeWhile (decide <| t < ·) = a ∧ (a ++ b).dropWhile (decide <| t < ·) = b
  | [], [], _, _ => ⟨rfl, rfl⟩
  | [], y :: b, _, h => by
    have := h y List.mem_cons_self
    rw [List.nil_append, List.takeWhile_cons_of_neg (by simp; omega), List.dropWhile_cons_of_neg (by simp; omega)]
    exact ⟨rfl, rfl⟩
  | y :: a, b, h1, h2 => by
    have := h1 y List.mem_cons_self
    obtain ⟨k1, k2⟩ := takeWhile_cut a b (fun z hz => h1 z (List.mem_cons_of_mem _ hz)) h2
    rw [List.cons_append, List.takeWhile_cons_of_pos (by simp; omega), List.dropWhile_cons_of_pos (by simp; omega), k1, k2]
    exact ⟨rfl, rfl⟩
/-- One next one, as it is found. -/
theorem nextI_some (t u : Int) (r1 r2 : List Int) (hd : Desc (r1 ++ u :: r2)) (hu : t < u) (h2 : ∀ y ∈ r2, y ≤ t) :
    ∀ p, nextI (p ++ t :: (r1 ++ u :: r2)) = some (p ++ u :: (r1 ++ t :: r2).reverse)
  | [] => by
    simp only [List.nil_append, nextI, nextI_desc hd]
    unfold swapS
    have ha : ∀ y ∈ r1 ++ [u], t < y := fun y hy => by
      rcases List.mem_append.1 hy with hy | hy
      · have := (List.pairwise_append.1 hd).2.2 y hy u List.mem_cons_self; omega
      · rw [List.mem_singleton.1 hy]; exact hu
    obtain ⟨k1, k2⟩ := takeWhile_cut (r1 ++ [u]) r2 ha h2
    rw [List.append_assoc] at k1 k2
    simp only [List.singleton_append] at k1 k2
    rw [k1, k2]
    simp
  | a :: p => by
    have ih := nextI_some t u r1 r2 hd hu h2 p
    simp only [List.cons_append, nextI, ih]
theorem nextI_none_desc : ∀ {r : List Int}, nextI r = none → Desc r
  | [], _ => List.Pairwise.nil
  | t :: r, h => by
    unfold nextI at h
    cases hn : nextI r with
    | some x => rw [hn] at h; cases h
    | none =>
      rw [hn] at h
      have hd := nextI_none_desc hn
      refine List.pairwise_cons.2 ⟨fun y hy => ?_, hd⟩
      cases r with
      | nil => cases hy
      | cons a r =>
        have ha : a ≤ t := by
          rcases (by omega : t < a ∨ a ≤ t) with h1 | h1
          · exfalso
            simp only [swapS, List.takeWhile_cons_of_pos (p := (decide <| t < ·)) (show (decide (t < a)) = true from decide_eq_true h1)] at h
            split at h
            · rename_i e; simp at e
            · cases h
          · exact h1
        rcases List.mem_cons.1 hy with rfl | hy
        · exact ha
        · have := (List.pairwise_cons.1 hd).1 y hy; omega
/-- The next one has the rank behind. -/
theorem next_rank : ∀ {r x : List Int} {l : List Nat}, Ord r l → nextI r = some x → Ord x l ∧ rankI x l = rankI r l + 1
  | [], x, l, h, hn => by cases hn
  | t :: r, x, l, h, hn => by
    unfold nextI at hn
    cases hr : nextI r with
    | some y =>
      rw [hr] at hn
      obtain rfl := Option.some.inj hn
      obtain ⟨h1, h2⟩ := next_rank h.tail hr
      have hp : Ord (t :: y) l := by
        have hh := h.head
        refine ⟨fun z hz => ?_, fun v hv => ?_⟩
        · rcases List.mem_cons.1 hz with rfl | hz
          · exact ⟨hh.1, by omega⟩
          · have := h1.1 z hz; rw [dec1_len] at this; exact this
        · have k1 := h1.2 v (by rw [dec1_len]; exact hv)
          have k2 := h.tail.2 v (by rw [dec1_len]; exact hv)
          rw [h.2 v hv, List.count_cons, List.count_cons]; omega
      exact ⟨hp, by show sumT 0 l t.toNat + _ = sumT 0 l t.toNat + _ + 1; omega⟩
    | none =>
      rw [hr] at hn
      have hd := nextI_none_desc hr
      simp only [swapS] at hn
      cases hu : (r.takeWhile (decide <| t < ·)).getLast? with
      | none => rw [hu] at hn; cases hn
      | some u =>
      rw [hu] at hn
      obtain rfl := Option.some.inj hn
      obtain ⟨r1, hr1⟩ := List.getLast?_eq_some_iff.1 hu
      have hr2 := (List.takeWhile_append_dropWhile (p := (decide <| t < ·)) (l := r))
      rw [hr1] at hr2
      have hut : t < u := by
        have : u ∈ r.takeWhile (decide <| t < ·) := by rw [hr1]; simp
        have := List.all_eq_true.1 List.all_takeWhile u this
        simpa using this
      have h2 : ∀ y ∈ r.dropWhile (decide <| t < ·), y ≤ t := by
        intro y hy
        cases hq : r.dropWhile (decide <| t < ·) with
        | nil => rw [hq] at hy; cases hy
        | cons a q =>
          have ha : ¬ t < a := by
            have hh := List.head?_dropWhile_not (decide <| t < ·) r
            rw [hq] at hh
            simp only [List.head?_cons] at hh
            intro hc
            simp [hc] at hh
          have hdq : Desc (a :: q) := by
            have e : Desc ((r1 ++ [u]) ++ r.dropWhile (decide <| t < ·)) := by rw [hr2]; exact hd
            rw [← hq]
            exact (List.pairwise_append.1 e).2.1
          rw [hq] at hy
          rcases List.mem_cons.1 hy with rfl | hy
          · omega
          · have := (List.pairwise_cons.1 hdq).1 y hy; omega
      rw [hr1, List.dropLast_concat]
      generalize hr2g : r.dropWhile (decide <| t < ·) = r2 at *
      have hre : r = r1 ++ u :: r2 := by rw [← hr2]; simp
      have hperm : (t :: r).Perm (u :: (r1 ++ t :: r2).reverse) := by
        rw [hre]
        refine List.Perm.trans ?_ (List.Perm.cons u (List.reverse_perm _).symm)
        refine (List.Perm.cons t List.perm_middle).trans ?_
        refine (List.Perm.swap u t _).trans (List.Perm.cons u ?_)
        exact List.perm_middle.symm
      have hx := h.perm hperm
      refine ⟨hx, ?_⟩
      have hasc : Asc (r1 ++ t :: r2).reverse := by
        unfold Asc
        rw [List.pairwise_reverse]
        rw [hre] at hd
        obtain ⟨p1, p2, p3⟩ := List.pairwise_append.1 hd
        obtain ⟨p4, p5⟩ := List.pairwise_cons.1 p2
        refine List.pairwise_append.2 ⟨p1, List.pairwise_cons.2 ⟨fun y hy => h2 y hy, p5⟩, fun a ha b hb => ?_⟩
        have hau := p3 a ha u List.mem_cons_self
        rcases List.mem_cons.1 hb with rfl | hb
        · omega
        · exact p3 a ha b (List.mem_cons_of_mem _ hb)
      have e1 := rank_asc hx.tail hasc
      have e2 := rank_desc h.tail hd
      have h1 := h.head
      have e3 := sumT_step h1.2.2
      have hu1 := hx.head
      have e4 : sumT 0 l u.toNat = sumT 0 l (t.toNat + 1) := sumT_flat u.toNat (by omega) fun v hv1 hv2 => by
        rw [h.2 v (by omega)]
        refine count_none fun y hy => ?_
        rcases List.mem_cons.1 hy with rfl | hy
        · omega
        · rw [hre] at hy hd
          obtain ⟨p1, p2, p3⟩ := List.pairwise_append.1 hd
          rcases List.mem_append.1 hy with hy | hy
          · have := p3 y hy u List.mem_cons_self; omega
          · rcases List.mem_cons.1 hy with rfl | hy
            · omega
            · have := h2 y hy; omega
      show sumT 0 l u.toNat + rankI _ (dec1 u.toNat l) = sumT 0 l t.toNat + rankI r (dec1 t.toNat l) + 1
      omega
theorem next_last {r : List Int} {l : List Nat} (h : Ord r l) : nextI r = none ↔ rankI r l + 1 = multi 0 l := by
  constructor
  · intro hn; exact rank_desc h (nextI_none_desc hn)
  · intro he
    cases hn : nextI r with
    | none => rfl
    | some x =>
      obtain ⟨h1, h2⟩ := next_rank h hn
      have := rank_lt h1
      omega
theorem asc_unique {a b : List Int} (p : a.Perm b) (ha : Asc a) (hb : Asc b) : a = b :=
  p.eq_of_pairwise (fun _ _ _ _ h1 h2 => by omega) ha hb
end Go.AM
