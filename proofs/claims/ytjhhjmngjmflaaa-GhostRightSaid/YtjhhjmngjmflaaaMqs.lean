/- Monitors' model: the document's model, cell by cell. Conditions: none. -/
import Derived.Test.YtjhhjmngjmflaaaMn1
import Derived.Test.YtjhhjmngjmflaaaMos
import Derived.Test.YtjhhjmngjmflaaaMns
set_option linter.unusedVariables false
set_option linter.unusedSimpArgs false
namespace Go.AM
def ownR (V : MdV) (o : Nat) : Int := match V.mons[o]? with | some x => x.own + 1 | none => 0
def cntR (V : MdV) (o : Nat) : Int := match V.mons[o]? with | some x => x.cnt | none => 0
def hshR (V : MdV) (o : Nat) : Int := match V.mons[o]? with | some x => x.hsh | none => 0
def flgR (V : MdV) (t : Nat) : Bool := match V.flags[t]? with | some b => b | none => false
def wtR (V : MdV) (o t : Nat) : Int := match getP ((o : Int), (t : Int)) V.waits with | some n => n | none => 0
def lcR (V : MdV) (o t : Nat) : Int := match getP ((o : Int), (t : Int)) V.left with | some l => l.cnt | none => 0
def lwR (V : MdV) (o t : Nat) : Int := match getP ((o : Int), (t : Int)) V.left with | some l => l.why | none => 0
/-- One cell. -/
def refF (V : MdV) (i : Nat) : SV :=
  if i = 0 then .int .i64 V.flags.length
  else if i = 1 then .int .i64 V.mons.length
  else if i = 2 then .int .i64 V.most
  else if i < 11 then .int .i64 (ownR V (i - 3))
  else if i < 19 then .int .i64 (cntR V (i - 11))
  else if i < 27 then .int .i64 (hshR V (i - 19))
  else if i < 35 then .bool (flgR V (i - 27))
  else if (i - 35) % 3 = 0 then .int .i64 (wtR V ((i - 35) / 24) ((i - 35) % 24 / 3))
  else if (i - 35) % 3 = 1 then .int .i64 (lcR V ((i - 35) / 24) ((i - 35) % 24 / 3))
  else .int .i64 (lwR V ((i - 35) / 24) ((i - 35) % 24 / 3))
/-- The document's model of the same. -/
def refC (V : MdV) : List SV := (List.range 227).map (refF V)
theorem refC_len (V : MdV) : (refC V).length = 227 := by simp [refC]
theorem refC_get (V : MdV) {i : Nat} (hi : i < 227) : (refC V)[i]? = some (refF V i) := by
  unfold refC
  rw [List.getElem?_map, List.getElem?_range hi]; rfl
theorem refC_set {V W : MdV} {i : Nat} (hi : i < 227) {x : SV} (hx : refF W i = x) (hj : ∀ j, j < 227 → j ≠ i → refF W j = refF V j) : (refC V).set i x = refC W := by
  apply List.ext_getElem?
  intro k
  by_cases hk : k < 227
  · by_cases e : i = k
    · subst e
      rw [List.getElem?_set_self (by rw [refC_len]; exact hk), refC_get W hk, hx]
    · rw [List.getElem?_set_ne e, refC_get V hk, refC_get W hk, hj k hk (Ne.symm e)]
  · rw [List.getElem?_eq_none (by rw [List.length_set, refC_len]; omega), List.getElem?_eq_none (by rw [refC_len]; omega)]
theorem splice3 (cs : List SV) (i : Nat) (a b c : SV) (h : i + 3 ≤ cs.length) : splice cs i [a, b, c] = ((cs.set i a).set (i + 1) b).set (i + 2) c := by
  unfold splice
  apply List.ext_getElem?
  intro k
  have hl : (cs.take i).length = i := by rw [List.length_take]; omega
  rcases Nat.lt_or_ge k i with hk | hk
  · rw [List.append_assoc, List.getElem?_append_left (by omega), List.getElem?_take_of_lt hk, List.getElem?_set_ne (by omega), List.getElem?_set_ne (by omega), List.getElem?_set_ne (by omega)]
  · rw [List.append_assoc, List.getElem?_append_right (by omega), hl]
    obtain ⟨m, rfl⟩ : ∃ m, k = i + m := ⟨k - i, by omega⟩
    rw [show i + m - i = m by omega]
    match m with
    | 0 => rw [show i + 0 = i from rfl, List.getElem?_set_ne (by omega), List.getElem?_set_ne (by omega), List.getElem?_set_self (by omega)]; rfl
    | 1 => rw [List.getElem?_set_ne (by omega), List.getElem?_set_self (by simp; omega)]; rfl
    | 2 => rw [List.getElem?_set_self (by simp; omega)]; rfl
    | m + 3 =>
      rw [List.getElem?_set_ne (by omega), List.getElem?_set_ne (by omega), List.getElem?_set_ne (by omega)]
      show (cs.drop (i + 3))[m]? = _
      rw [List.getElem?_drop]; congr 1; omega
theorem refC_splice {V W : MdV} {i : Nat} (hi : i + 3 ≤ 227) {a b c : SV} (ha : refF W i = a) (hb : refF W (i + 1) = b) (hc : refF W (i + 2) = c) (hj : ∀ j, j < 227 → j < i ∨ i + 3 ≤ j → refF W j = refF V j) : splice (refC V) i [a, b, c] = refC W := by
  rw [splice3 _ _ _ _ _ (by rw [refC_len]; exact hi)]
  apply List.ext_getElem?
  intro k
  by_cases hk : k < 227
  · rw [refC_get W hk]
    by_cases e2 : i + 2 = k
    · subst e2; rw [List.getElem?_set_self (by simp [refC_len]; omega), hc]
    · rw [List.getElem?_set_ne e2]
      by_cases e1 : i + 1 = k
      · subst e1; rw [List.getElem?_set_self (by simp [refC_len]; omega), hb]
      · rw [List.getElem?_set_ne e1]
        by_cases e0 : i = k
        · subst e0; rw [List.getElem?_set_self (by rw [refC_len]; omega), ha]
        · rw [List.getElem?_set_ne e0, refC_get V hk, hj k hk (by omega)]
  · rw [List.getElem?_eq_none (by simp [refC_len]; omega), List.getElem?_eq_none (by rw [refC_len]; omega)]
section
variable (V : MdV)
theorem refC_n : (refC V)[0]? = some (.int .i64 V.flags.length) := refC_get V (by omega)
theorem refC_m : (refC V)[1]? = some (.int .i64 V.mons.length) := refC_get V (by omega)
theorem refC_most : (refC V)[2]? = some (.int .i64 V.most) := refC_get V (by omega)
theorem refF_own {o : Nat} (ho : o < 8) : refF V (3 + o) = .int .i64 (ownR V o) := by
  unfold refF
  rw [if_neg (by omega), if_neg (by omega), if_neg (by omega), if_pos (by omega), show 3 + o - 3 = o by omega]
theorem refF_cnt {o : Nat} (ho : o < 8) : refF V (11 + o) = .int .i64 (cntR V o) := by
  unfold refF
  rw [if_neg (by omega), if_neg (by omega), if_neg (by omega), if_neg (by omega), if_pos (by omega), show 11 + o - 11 = o by omega]
theorem refF_hsh {o : Nat} (ho : o < 8) : refF V (19 + o) = .int .i64 (hshR V o) := by
  unfold refF
  rw [if_neg (by omega), if_neg (by omega), if_neg (by omega), if_neg (by omega), if_neg (by omega), if_pos (by omega), show 19 + o - 19 = o by omega]
theorem refF_flg {t : Nat} (ht : t < 8) : refF V (27 + t) = .bool (flgR V t) := by
  unfold refF
  rw [if_neg (by omega), if_neg (by omega), if_neg (by omega), if_neg (by omega), if_neg (by omega), if_neg (by omega), if_pos (by omega), show 27 + t - 27 = t by omega]
theorem refF_wt {o t : Nat} (ho : o < 8) (ht : t < 8) : refF V (35 + o * 24 + t * 3) = .int .i64 (wtR V o t) := by
  unfold refF
  rw [if_neg (by omega), if_neg (by omega), if_neg (by omega), if_neg (by omega), if_neg (by omega), if_neg (by omega), if_neg (by omega), if_pos (by omega), show (35 + o * 24 + t * 3 - 35) / 24 = o by omega, show (35 + o * 24 + t * 3 - 35) % 24 / 3 = t by omega]
theorem refF_lc {o t : Nat} (ho : o < 8) (ht : t < 8) : refF V (35 + o * 24 + t * 3 + 1) = .int .i64 (lcR V o t) := by
  unfold refF
  rw [if_neg (by omega), if_neg (by omega), if_neg (by omega), if_neg (by omega), if_neg (by omega), if_neg (by omega), if_neg (by omega), if_neg (by omega), if_pos (by omega), show (35 + o * 24 + t * 3 + 1 - 35) / 24 = o by omega, show (35 + o * 24 + t * 3 + 1 - 35) % 24 / 3 = t by omega]
theorem refF_lw {o t : Nat} (ho : o < 8) (ht : t < 8) : refF V (35 + o * 24 + t * 3 + 2) = .int .i64 (lwR V o t) := by
  unfold refF
  rw [if_neg (by omega), if_neg (by omega), if_neg (by omega), if_neg (by omega), if_neg (by omega), if_neg (by omega), if_neg (by omega), if_neg (by omega), if_neg (by omega), show (35 + o * 24 + t * 3 + 2 - 35) / 24 = o by omega, show (35 + o * 24 + t * 3 + 2 - 35) % 24 / 3 = t by omega]
theorem refC_own {o : Nat} (ho : o < 8) : (refC V)[3 + o]? = some (.int .i64 (ownR V o)) := by rw [refC_get V (by omega), refF_own V ho]
theorem refC_cnt {o : Nat} (ho : o < 8) : (refC V)[11 + o]? = some (.int .i64 (cntR V o)) := by rw [refC_get V (by omega), refF_cnt V ho]
theorem refC_hsh {o : Nat} (ho : o < 8) : (refC V)[19 + o]? = some (.int .i64 (hshR V o)) := by rw [refC_get V (by omega), refF_hsh V ho]
theorem refC_flg {t : Nat} (ht : t < 8) : (refC V)[27 + t]? = some (.bool (flgR V t)) := by rw [refC_get V (by omega), refF_flg V ht]
theorem refC_wt {o t : Nat} (ho : o < 8) (ht : t < 8) : (refC V)[35 + o * 24 + t * 3]? = some (.int .i64 (wtR V o t)) := by rw [refC_get V (by omega), refF_wt V ho ht]
theorem refC_lc {o t : Nat} (ho : o < 8) (ht : t < 8) : (refC V)[35 + o * 24 + t * 3 + 1]? = some (.int .i64 (lcR V o t)) := by rw [refC_get V (by omega), refF_lc V ho ht]
theorem refC_lw {o t : Nat} (ho : o < 8) (ht : t < 8) : (refC V)[35 + o * 24 + t * 3 + 2]? = some (.int .i64 (lwR V o t)) := by rw [refC_get V (by omega), refF_lw V ho ht]
theorem refC_pl {o t : Nat} (ho : o < 8) (ht : t < 8) : ((refC V).drop (35 + o * 24 + t * 3)).take 3 = [.int .i64 (wtR V o t), .int .i64 (lcR V o t), .int .i64 (lwR V o t)] := by
  apply List.ext_getElem?
  intro k
  match k with
  | 0 => rw [List.getElem?_take_of_lt (by omega), List.getElem?_drop, Nat.add_zero, refC_wt V ho ht]; rfl
  | 1 => rw [List.getElem?_take_of_lt (by omega), List.getElem?_drop, refC_lc V ho ht]; rfl
  | 2 => rw [List.getElem?_take_of_lt (by omega), List.getElem?_drop, refC_lw V ho ht]; rfl
  | k + 3 => rw [List.getElem?_eq_none (by rw [List.length_take]; omega), List.getElem?_eq_none (by simp)]
variable {V}
/-- Models that have the same, but for some cells. -/
theorem refF_congr {W : MdV} {j : Nat} (hj : j < 227) (h0 : W.flags.length = V.flags.length) (h1 : W.mons.length = V.mons.length) (h2 : W.most = V.most) (h3 : ∀ o, j = 3 + o → o < 8 → ownR W o = ownR V o) (h4 : ∀ o, j = 11 + o → o < 8 → cntR W o = cntR V o) (h5 : ∀ o, j = 19 + o → o < 8 → hshR W o = hshR V o)
    (h6 : ∀ t, j = 27 + t → t < 8 → flgR W t = flgR V t) (h7 : ∀ o t, j = 35 + o * 24 + t * 3 → o < 8 → t < 8 → wtR W o t = wtR V o t) (h8 : ∀ o t, j = 35 + o * 24 + t * 3 + 1 → o < 8 → t < 8 → lcR W o t = lcR V o t) (h9 : ∀ o t, j = 35 + o * 24 + t * 3 + 2 → o < 8 → t < 8 → lwR W o t = lwR V o t) : refF W j = refF V j := by
  unfold refF
  rw [h0, h1, h2]
  by_cases c0 : j = 0
  · rw [if_pos c0, if_pos c0]
  · rw [if_neg c0, if_neg c0]
    by_cases c1 : j = 1
    · rw [if_pos c1, if_pos c1]
    · rw [if_neg c1, if_neg c1]
      by_cases c2 : j = 2
      · rw [if_pos c2, if_pos c2]
      · rw [if_neg c2, if_neg c2]
        by_cases c3 : j < 11
        · rw [if_pos c3, if_pos c3, h3 (j - 3) (by omega) (by omega)]
        · rw [if_neg c3, if_neg c3]
          by_cases c4 : j < 19
          · rw [if_pos c4, if_pos c4, h4 (j - 11) (by omega) (by omega)]
          · rw [if_neg c4, if_neg c4]
            by_cases c5 : j < 27
            · rw [if_pos c5, if_pos c5, h5 (j - 19) (by omega) (by omega)]
            · rw [if_neg c5, if_neg c5]
              by_cases c6 : j < 35
              · rw [if_pos c6, if_pos c6, h6 (j - 27) (by omega) (by omega)]
              · rw [if_neg c6, if_neg c6]
                by_cases c7 : (j - 35) % 3 = 0
                · rw [if_pos c7, if_pos c7, h7 _ _ (by omega) (by omega) (by omega)]
                · rw [if_neg c7, if_neg c7]
                  by_cases c8 : (j - 35) % 3 = 1
                  · rw [if_pos c8, if_pos c8, h8 _ _ (by omega) (by omega) (by omega)]
                  · rw [if_neg c8, if_neg c8, h9 _ _ (by omega) (by omega) (by omega)]
theorem get_setM {V : MdV} {o : Nat} {x y : MonV} (hx : V.mons[o]? = some x) (k : Nat) : (V.setM o y).mons[k]? = if k = o then some y else V.mons[k]? := by
  have := (List.getElem?_eq_some_iff.1 hx).1
  simp only [MdV.setM]
  by_cases e : k = o
  · subst e; rw [if_pos rfl, List.getElem?_set_self this]
  · rw [if_neg e, List.getElem?_set_ne (Ne.symm e)]
theorem refC_setOwn {o : Nat} {x : MonV} (ho : o < 8) (hx : V.mons[o]? = some x) (n : Int) : (refC V).set (3 + o) (.int .i64 (n + 1)) = refC (V.setM o ⟨n, x.cnt, x.hsh⟩) := by
  have g := get_setM (y := ⟨n, x.cnt, x.hsh⟩) hx
  refine refC_set (by omega) ?_ fun j hj hne => refF_congr hj rfl (by simp [MdV.setM]) rfl (fun k e hk => ?_) (fun k e hk => ?_) (fun k e hk => ?_) (fun t e hk => rfl) (fun a b e h1 h2 => rfl) (fun a b e h1 h2 => rfl) (fun a b e h1 h2 => rfl)
  · rw [refF_own _ ho]; unfold ownR; rw [g o, if_pos rfl]
  · unfold ownR; rw [g k, if_neg (by omega)]
  · unfold cntR; rw [g k]
    by_cases q : k = o
    · subst q; rw [if_pos rfl, hx]
    · rw [if_neg q]
  · unfold hshR; rw [g k]
    by_cases q : k = o
    · subst q; rw [if_pos rfl, hx]
    · rw [if_neg q]
theorem refC_setCnt {o : Nat} {x : MonV} (ho : o < 8) (hx : V.mons[o]? = some x) (n : Int) : (refC V).set (11 + o) (.int .i64 n) = refC (V.setM o ⟨x.own, n, x.hsh⟩) := by
  have g := get_setM (y := ⟨x.own, n, x.hsh⟩) hx
  refine refC_set (by omega) ?_ fun j hj hne => refF_congr hj rfl (by simp [MdV.setM]) rfl (fun k e hk => ?_) (fun k e hk => ?_) (fun k e hk => ?_) (fun t e hk => rfl) (fun a b e h1 h2 => rfl) (fun a b e h1 h2 => rfl) (fun a b e h1 h2 => rfl)
  · rw [refF_cnt _ ho]; unfold cntR; rw [g o, if_pos rfl]
  · unfold ownR; rw [g k]
    by_cases q : k = o
    · subst q; rw [if_pos rfl, hx]
    · rw [if_neg q]
  · unfold cntR; rw [g k, if_neg (by omega)]
  · unfold hshR; rw [g k]
    by_cases q : k = o
    · subst q; rw [if_pos rfl, hx]
    · rw [if_neg q]
theorem refC_setHsh {o : Nat} {x : MonV} (ho : o < 8) (hx : V.mons[o]? = some x) (n : Int) : (refC V).set (19 + o) (.int .i64 n) = refC (V.setM o ⟨x.own, x.cnt, n⟩) := by
  have g := get_setM (y := ⟨x.own, x.cnt, n⟩) hx
  refine refC_set (by omega) ?_ fun j hj hne => refF_congr hj rfl (by simp [MdV.setM]) rfl (fun k e hk => ?_) (fun k e hk => ?_) (fun k e hk => ?_) (fun t e hk => rfl) (fun a b e h1 h2 => rfl) (fun a b e h1 h2 => rfl) (fun a b e h1 h2 => rfl)
  · rw [refF_hsh _ ho]; unfold hshR; rw [g o, if_pos rfl]
  · unfold ownR; rw [g k]
    by_cases q : k = o
    · subst q; rw [if_pos rfl, hx]
    · rw [if_neg q]
  · unfold cntR; rw [g k]
    by_cases q : k = o
    · subst q; rw [if_pos rfl, hx]
    · rw [if_neg q]
  · unfold hshR; rw [g k, if_neg (by omega)]
theorem refC_setFlg {t : Nat} (ht8 : t < 8) (ht : t < V.flags.length) (b : Bool) : (refC V).set (27 + t) (.bool b) = refC (V.setF t b) := by
  have g : ∀ k, (V.setF t b).flags[k]? = if k = t then some b else V.flags[k]? := fun k => by
    simp only [MdV.setF]
    by_cases e : k = t
    · subst e; rw [if_pos rfl, List.getElem?_set_self ht]
    · rw [if_neg e, List.getElem?_set_ne (Ne.symm e)]
  refine refC_set (by omega) ?_ fun j hj hne => refF_congr hj (by simp [MdV.setF]) rfl rfl (fun k e hk => rfl) (fun k e hk => rfl) (fun k e hk => rfl) (fun k e hk => ?_) (fun a b e h1 h2 => rfl) (fun a b e h1 h2 => rfl) (fun a b e h1 h2 => rfl)
  · rw [refF_flg _ ht8]; unfold flgR; rw [g t, if_pos rfl]
  · unfold flgR; rw [g k, if_neg (by omega)]
theorem refC_setWt {o t : Nat} (ho : o < 8) (ht : t < 8) (n : Int) : (refC V).set (35 + o * 24 + t * 3) (.int .i64 n) = refC { V with waits := updP ((o : Int), (t : Int)) n V.waits } := by
  refine refC_set (by omega) ?_ fun j hj hne => refF_congr hj rfl rfl rfl (fun k e hk => rfl) (fun k e hk => rfl) (fun k e hk => rfl) (fun k e hk => rfl) (fun a b e h1 h2 => ?_) (fun a b e h1 h2 => rfl) (fun a b e h1 h2 => rfl)
  · rw [refF_wt _ ho ht]; unfold wtR; rw [getP_upd, if_pos rfl]
  · unfold wtR; simp only; rw [getP_upd, if_neg (fun q => by have := Prod.mk.inj q; omega)]
theorem refC_leave {o t : Nat} (ho : o < 8) (ht : t < 8) (hd : NdP V.waits) (n w : Int) : splice (refC V) (35 + o * 24 + t * 3) [.int .i64 0, .int .i64 n, .int .i64 w] = refC { V with waits := delP ((o : Int), (t : Int)) V.waits, left := updP ((o : Int), (t : Int)) ⟨n, w⟩ V.left } := by
  refine refC_splice (by omega) ?_ ?_ ?_ fun j hj hne => refF_congr hj rfl rfl rfl (fun k e hk => rfl) (fun k e hk => rfl) (fun k e hk => rfl) (fun k e hk => rfl) (fun a b e h1 h2 => ?_) (fun a b e h1 h2 => ?_) (fun a b e h1 h2 => ?_)
  · rw [refF_wt _ ho ht]; unfold wtR; simp only; rw [getP_del _ _ hd, if_pos rfl]
  · rw [refF_lc _ ho ht]; unfold lcR; simp only; rw [getP_upd, if_pos rfl]
  · rw [refF_lw _ ho ht]; unfold lwR; simp only; rw [getP_upd, if_pos rfl]
  · unfold wtR; simp only; rw [getP_del _ _ hd, if_neg (fun q => by have := Prod.mk.inj q; omega)]
  · unfold lcR; simp only; rw [getP_upd, if_neg (fun q => by have := Prod.mk.inj q; omega)]
  · unfold lwR; simp only; rw [getP_upd, if_neg (fun q => by have := Prod.mk.inj q; omega)]
theorem refC_end {o t : Nat} (ho : o < 8) (ht : t < 8) (hd : NdP V.left) (hw : getP ((o : Int), (t : Int)) V.waits = none) : splice (refC V) (35 + o * 24 + t * 3) [.int .i64 0, .int .i64 0, .int .i64 0] = refC { V with left := delP ((o : Int), (t : Int)) V.left } := by
  refine refC_splice (by omega) ?_ ?_ ?_ fun j hj hne => refF_congr hj rfl rfl rfl (fun k e hk => rfl) (fun k e hk => rfl) (fun k e hk => rfl) (fun k e hk => rfl) (fun a b e h1 h2 => rfl) (fun a b e h1 h2 => ?_) (fun a b e h1 h2 => ?_)
  · rw [refF_wt _ ho ht]; unfold wtR; simp only; rw [hw]
  · rw [refF_lc _ ho ht]; unfold lcR; simp only; rw [getP_del _ _ hd, if_pos rfl]
  · rw [refF_lw _ ho ht]; unfold lwR; simp only; rw [getP_del _ _ hd, if_pos rfl]
  · unfold lcR; simp only; rw [getP_del _ _ hd, if_neg (fun q => by have := Prod.mk.inj q; omega)]
  · unfold lwR; simp only; rw [getP_del _ _ hd, if_neg (fun q => by have := Prod.mk.inj q; omega)]
end
end Go.AM
/- Monitors' model: what the document's model is asked. Conditions: none. -/
set_option linter.unusedVariables false
set_option linter.unusedSimpArgs false
set_option maxRecDepth 100000
-- NOTY: ze47, bu47
namespace Go.AM
open Go.Proofs
-- LENS: EvV.len, MonV.len, refC_len
/-- A model of nobody. -/
def nilM : MdV := ⟨0, [], [], [], []⟩
theorem wtR_pos {n m : Nat} {c : Int} {V : MdV} (I : MdI n m c V) (o t : Nat) : decide (wtR V o t > 0) = (getP ((o : Int), (t : Int)) V.waits).isSome := by
  unfold wtR
  cases h : getP ((o : Int), (t : Int)) V.waits with
  | none => rfl
  | some v =>
    have := (I.wc _ (getP_mem h)).1
    exact decide_eq_true (by simp only at this ⊢; omega)
theorem lcR_pos {n m : Nat} {c : Int} {V : MdV} (I : MdI n m c V) (o t : Nat) : decide (lcR V o t > 0) = (getP ((o : Int), (t : Int)) V.left).isSome := by
  unfold lcR
  cases h : getP ((o : Int), (t : Int)) V.left with
  | none => rfl
  | some v =>
    have := (I.lc _ (getP_mem h)).1
    exact decide_eq_true (by simp only at this ⊢; omega)
section
variable {P : Program} {T : Tab} {K d : Nat} (S : Sd P T K)
include S
theorem ze47r : zeroL P 47 = some (refC nilM) := by
  rw [ze47 S.p]; rfl
theorem partV (V : MdV) : partA P 47 (refC V) 0 = some (.ag (refC V)) := by
  rw [part_ag (ag47 S.p) (sz47 S.p), if_pos (by rw [refC_len]; omega), List.drop_zero, List.take_of_length_le (by rw [refC_len]; omega)]
theorem s51 (hd : 1 ≤ d) (V : MdV) (t : Int) (lk : Nat) (h : List AO) : ev P T K d 51 [.ag (refC V), .sc (.int .i64 t)] lk h = some (.v (.sc (.bool (decide (0 ≤ t ∧ t < V.flags.length)))), h) := by
  obtain ⟨d, rfl⟩ : ∃ k, d = k + 1 := ⟨d - 1, by omega⟩
  refine ev_pure (at51 S.t) rfl ?_
  unfold i51 Try.f51
  have g0 := refC_n V
  by_cases c1 : 0 ≤ t
  · by_cases c2 : t < V.flags.length
    · simp (maxSteps := 1000000) (disch := first | omega | (simp (disch := first | omega | (simp only [EvV.len, MonV.len, refC_len, List.length_append, List.length_cons, List.length_nil, List.length_set]; first | done | omega)) only [EvV.len, MonV.len, refC_len, amSide, Int.reduceToNat, Nat.reducePow, Nat.reduceMul]; first | done | omega)) only  [↓amPre, amPost, ↓s_lit', Nat.reduceAdd, Nat.reduceSub, List.replicate, retA, resultsA, resultA, toC, toCL, Nat.reduceEqDiff, (fa47_0 S.p), part_sc (ag3 S.p), g0, dec_t, dec_f, cells_self, cells_other, Nat.zero_add, Nat.add_zero]
      exact Ends.some (by simp [c1, c2])
    · simp (maxSteps := 1000000) (disch := first | omega | (simp (disch := first | omega | (simp only [EvV.len, MonV.len, refC_len, List.length_append, List.length_cons, List.length_nil, List.length_set]; first | done | omega)) only [EvV.len, MonV.len, refC_len, amSide, Int.reduceToNat, Nat.reducePow, Nat.reduceMul]; first | done | omega)) only  [↓amPre, amPost, ↓s_lit', Nat.reduceAdd, Nat.reduceSub, List.replicate, retA, resultsA, resultA, toC, toCL, Nat.reduceEqDiff, (fa47_0 S.p), part_sc (ag3 S.p), g0, dec_t, dec_f, cells_self, cells_other, Nat.zero_add, Nat.add_zero]
      exact Ends.some (by simp [c1, c2])
  · simp (maxSteps := 1000000) (disch := first | omega | (simp (disch := first | omega | (simp only [EvV.len, MonV.len, refC_len, List.length_append, List.length_cons, List.length_nil, List.length_set]; first | done | omega)) only [EvV.len, MonV.len, refC_len, amSide, Int.reduceToNat, Nat.reducePow, Nat.reduceMul]; first | done | omega)) only  [↓amPre, amPost, ↓s_lit', Nat.reduceAdd, Nat.reduceSub, List.replicate, retA, resultsA, resultA, toC, toCL, Nat.reduceEqDiff, (fa47_0 S.p), part_sc (ag3 S.p), g0, dec_t, dec_f, cells_self, cells_other, Nat.zero_add, Nat.add_zero]
    exact Ends.some (by simp [c1])
structure GnSt where
  i : Nat
set_option maxHeartbeats 2000000 in
theorem s52 (hd : 1 ≤ d) {n m : Nat} {c : Int} {V : MdV} (I : MdI n m c V) {t : Nat} (ht : t < 8) (lk : Nat) (h : List AO) : ev P T K d 52 [.ag (refC V), .sc (.int .i64 (t : Int))] lk h = some (.v (.sc (.bool (goneV V t))), h) := by
  obtain ⟨d, rfl⟩ : ∃ k, d = k + 1 := ⟨d - 1, by omega⟩
  refine ev_pure (at52 S.t) rfl ?_
  unfold i52 Try.f52
  have g1 := refC_m V
  have hm8 := I.ok.m
  simp (maxSteps := 1000000) (disch := first | omega | (simp (disch := first | omega | (simp only [EvV.len, MonV.len, refC_len, List.length_append, List.length_cons, List.length_nil, List.length_set]; first | done | omega)) only [EvV.len, MonV.len, refC_len, amSide, Int.reduceToNat, Nat.reducePow, Nat.reduceMul]; first | done | omega)) only  [↓amPre, amPost, ↓s_lit', Nat.reduceAdd, Nat.reduceSub, List.replicate, retA, resultsA, resultA, toC, toCL, Nat.reduceEqDiff, (fa43_0 S.p), (fa43_1 S.p), (fa47_1 S.p), (fa47_7 S.p), iaddr_ptr (un44 S.p) (sz43 S.p), iaddr_ptr (un45 S.p) (sz44 S.p), part_sc (ag3 S.p)]
  refine ends_loop (X := GnSt) ⟨0⟩ [4, 6, 7, 8, 9, 10, 11, 12, 13, 14, 15, 16, 17, 18, 19, 20, 21, 22, 23, 24, 25, 26, 27, 28, 29] (fun x => x.i ≤ V.mons.length ∧ ∀ k : Nat, k < x.i → getP ((k : Int), (t : Int)) V.waits = none ∧ getP ((k : Int), (t : Int)) V.left = none) (fun x => V.mons.length - x.i)
    (fun x e => e.set 5 (.v (.sc (.int .i64 x.i)))) (fun x => h ++ [.rw 47 (refC V)])
    (by have := S.k; show _ < K; simp only; omega) ⟨by simp only; omega, fun k hk => (by simp only at hk; omega)⟩ rfl rfl ?_
  rintro ⟨i⟩ ⟨hi, hall⟩ again hag e he
  simp only at hi hall hag he
  simp only [↓amPre, amPost, ↓s_lit', Nat.reduceAdd, Nat.reduceSub, List.replicate, retA, resultsA, resultA, toC, toCL, Nat.reduceEqDiff] at he
  simp only [↓amPre, amPost, ↓s_lit', Nat.reduceAdd, Nat.reduceSub, List.replicate, retA, resultsA, resultA, toC, toCL, Nat.reduceEqDiff, he]
  simp (maxSteps := 1000000) (disch := first | omega | (simp (disch := first | omega | (simp only [EvV.len, MonV.len, refC_len, List.length_append, List.length_cons, List.length_nil, List.length_set]; first | done | omega)) only [EvV.len, MonV.len, refC_len, amSide, Int.reduceToNat, Nat.reducePow, Nat.reduceMul]; first | done | omega)) only  [↓amPre, amPost, ↓s_lit', Nat.reduceAdd, Nat.reduceSub, List.replicate, retA, resultsA, resultA, toC, toCL, Nat.reduceEqDiff, he, (fa43_0 S.p), (fa43_1 S.p), (fa47_1 S.p), (fa47_7 S.p), iaddr_ptr (un44 S.p) (sz43 S.p), iaddr_ptr (un45 S.p) (sz44 S.p), part_sc (ag3 S.p), g1, cells_self, cells_other, Nat.zero_add, Nat.add_zero]
  refine ends_cond (fun hc1 => ?_) (fun hc1 => ?_)
  · simp only [decide_eq_true_eq] at hc1
    have hi8 : i < 8 := by omega
    have g2 := refC_wt V hi8 ht
    have g3 := refC_lc V hi8 ht
    have p1 := wtR_pos I i t
    have p2 := lcR_pos I i t
    have hgt : (getP ((i : Int), (t : Int)) V.waits).isSome = true ∨ (getP ((i : Int), (t : Int)) V.left).isSome = true → goneV V t = true := fun hq => (goneV_iff V t).2 ⟨i, by omega, hq⟩
    cases q1 : (getP ((i : Int), (t : Int)) V.waits).isSome with
    | true =>
      rw [q1] at p1
      rw [hgt (.inl q1)]
      simp (maxSteps := 1000000) (disch := first | omega | (simp (disch := first | omega | (simp only [EvV.len, MonV.len, refC_len, List.length_append, List.length_cons, List.length_nil, List.length_set]; first | done | omega)) only [EvV.len, MonV.len, refC_len, amSide, Int.reduceToNat, Nat.reducePow, Nat.reduceMul]; first | done | omega)) only  [↓amPre, amPost, ↓s_lit', Nat.reduceAdd, Nat.reduceSub, List.replicate, retA, resultsA, resultA, toC, toCL, Nat.reduceEqDiff, he, (fa43_0 S.p), (fa43_1 S.p), (fa47_1 S.p), (fa47_7 S.p), iaddr_ptr (un44 S.p) (sz43 S.p), iaddr_ptr (un45 S.p) (sz44 S.p), part_sc (ag3 S.p), g1, g2, g3, p1, dec_t, idx_ok, cells_self, cells_other, Int.toNat_natCast, Nat.zero_add, Nat.add_zero]
      exact Ends.some rfl
    | false =>
      rw [q1] at p1
      cases q2 : (getP ((i : Int), (t : Int)) V.left).isSome with
      | true =>
        rw [q2] at p2
        rw [hgt (.inr q2)]
        simp (maxSteps := 1000000) (disch := first | omega | (simp (disch := first | omega | (simp only [EvV.len, MonV.len, refC_len, List.length_append, List.length_cons, List.length_nil, List.length_set]; first | done | omega)) only [EvV.len, MonV.len, refC_len, amSide, Int.reduceToNat, Nat.reducePow, Nat.reduceMul]; first | done | omega)) only  [↓amPre, amPost, ↓s_lit', Nat.reduceAdd, Nat.reduceSub, List.replicate, retA, resultsA, resultA, toC, toCL, Nat.reduceEqDiff, he, (fa43_0 S.p), (fa43_1 S.p), (fa47_1 S.p), (fa47_7 S.p), iaddr_ptr (un44 S.p) (sz43 S.p), iaddr_ptr (un45 S.p) (sz44 S.p), part_sc (ag3 S.p), g1, g2, g3, p1, p2, dec_t, idx_ok, cells_self, cells_other, Int.toNat_natCast, Nat.zero_add, Nat.add_zero]
        exact Ends.some rfl
      | false =>
        rw [q2] at p2
        simp (maxSteps := 1000000) (disch := first | omega | (simp (disch := first | omega | (simp only [EvV.len, MonV.len, refC_len, List.length_append, List.length_cons, List.length_nil, List.length_set]; first | done | omega)) only [EvV.len, MonV.len, refC_len, amSide, Int.reduceToNat, Nat.reducePow, Nat.reduceMul]; first | done | omega)) only  [↓amPre, amPost, ↓s_lit', Nat.reduceAdd, Nat.reduceSub, List.replicate, retA, resultsA, resultA, toC, toCL, Nat.reduceEqDiff, he, (fa43_0 S.p), (fa43_1 S.p), (fa47_1 S.p), (fa47_7 S.p), iaddr_ptr (un44 S.p) (sz43 S.p), iaddr_ptr (un45 S.p) (sz44 S.p), part_sc (ag3 S.p), g1, g2, g3, p1, p2, dec_t, idx_ok, cells_self, cells_other, Int.toNat_natCast, Nat.zero_add, Nat.add_zero, wrap_i64]
        refine hag ⟨i + 1⟩ ⟨by simp only; omega, fun k hk => ?_⟩ (by simp only; omega) _ ?_
        · simp only at hk
          rcases Nat.lt_succ_iff_lt_or_eq.1 hk with hk | rfl
          · exact hall k hk
          · exact ⟨Option.not_isSome_iff_eq_none.1 (by rw [q1]; simp), Option.not_isSome_iff_eq_none.1 (by rw [q2]; simp)⟩
        · simp (maxSteps := 1000000) (disch := first | omega | (simp (disch := first | omega | (simp only [EvV.len, MonV.len, refC_len, List.length_append, List.length_cons, List.length_nil, List.length_set]; first | done | omega)) only [EvV.len, MonV.len, refC_len, amSide, Int.reduceToNat, Nat.reducePow, Nat.reduceMul]; first | done | omega)) only [↓amPre, amPost, ↓s_lit', Nat.reduceAdd, Nat.reduceSub, List.replicate, retA, resultsA, resultA, toC, toCL, Nat.reduceEqDiff, Int.natCast_add, Int.cast_ofNat_Int, dec_t, dec_f]
  · simp only [decide_eq_false_iff_not] at hc1
    obtain rfl : i = V.mons.length := by omega
    have hg : goneV V t = false := (goneV_false V t).2 hall
    rw [hg]
    simp (maxSteps := 1000000) (disch := first | omega | (simp (disch := first | omega | (simp only [EvV.len, MonV.len, refC_len, List.length_append, List.length_cons, List.length_nil, List.length_set]; first | done | omega)) only [EvV.len, MonV.len, refC_len, amSide, Int.reduceToNat, Nat.reducePow, Nat.reduceMul]; first | done | omega)) only  [↓amPre, amPost, ↓s_lit', Nat.reduceAdd, Nat.reduceSub, List.replicate, retA, resultsA, resultA, toC, toCL, Nat.reduceEqDiff, he, (fa43_0 S.p), (fa43_1 S.p), (fa47_1 S.p), (fa47_7 S.p), iaddr_ptr (un44 S.p) (sz43 S.p), iaddr_ptr (un45 S.p) (sz44 S.p), part_sc (ag3 S.p)]
    exact Ends.some rfl
set_option maxHeartbeats 2000000 in
theorem s82 (hd : 1 ≤ d) {n m : Nat} {c : Int} {V : MdV} (I : MdI n m c V) {o : Nat} (ho : o < 8) (lk : Nat) (h : List AO) : ev P T K d 82 [.ag (refC V), .sc (.int .i64 (o : Int))] lk h = some (.v (.sc (.bool (decide (thrV V.waits o = [])))), h) := by
  obtain ⟨d, rfl⟩ : ∃ k, d = k + 1 := ⟨d - 1, by omega⟩
  refine ev_pure (at82 S.t) rfl ?_
  unfold i82 Try.f82
  have g1 := refC_n V
  have hn8 := I.ok.n
  simp (maxSteps := 1000000) (disch := first | omega | (simp (disch := first | omega | (simp only [EvV.len, MonV.len, refC_len, List.length_append, List.length_cons, List.length_nil, List.length_set]; first | done | omega)) only [EvV.len, MonV.len, refC_len, amSide, Int.reduceToNat, Nat.reducePow, Nat.reduceMul]; first | done | omega)) only  [↓amPre, amPost, ↓s_lit', Nat.reduceAdd, Nat.reduceSub, List.replicate, retA, resultsA, resultA, toC, toCL, Nat.reduceEqDiff, (fa43_0 S.p), (fa47_0 S.p), (fa47_7 S.p), iaddr_ptr (un44 S.p) (sz43 S.p), iaddr_ptr (un45 S.p) (sz44 S.p), part_sc (ag3 S.p)]
  refine ends_loop (X := GnSt) ⟨0⟩ [4, 6, 7, 8, 9, 10, 11, 12, 13, 14, 15, 16, 17, 18, 19] (fun x => x.i ≤ V.flags.length ∧ ∀ k : Nat, k < x.i → getP ((o : Int), (k : Int)) V.waits = none) (fun x => V.flags.length - x.i)
    (fun x e => e.set 5 (.v (.sc (.int .i64 x.i)))) (fun x => h ++ [.rw 47 (refC V)])
    (by have := S.k; show _ < K; simp only; omega) ⟨by simp only; omega, fun k hk => (by simp only at hk; omega)⟩ rfl rfl ?_
  rintro ⟨i⟩ ⟨hi, hall⟩ again hag e he
  simp only at hi hall hag he
  simp only [↓amPre, amPost, ↓s_lit', Nat.reduceAdd, Nat.reduceSub, List.replicate, retA, resultsA, resultA, toC, toCL, Nat.reduceEqDiff] at he
  simp only [↓amPre, amPost, ↓s_lit', Nat.reduceAdd, Nat.reduceSub, List.replicate, retA, resultsA, resultA, toC, toCL, Nat.reduceEqDiff, he]
  simp (maxSteps := 1000000) (disch := first | omega | (simp (disch := first | omega | (simp only [EvV.len, MonV.len, refC_len, List.length_append, List.length_cons, List.length_nil, List.length_set]; first | done | omega)) only [EvV.len, MonV.len, refC_len, amSide, Int.reduceToNat, Nat.reducePow, Nat.reduceMul]; first | done | omega)) only  [↓amPre, amPost, ↓s_lit', Nat.reduceAdd, Nat.reduceSub, List.replicate, retA, resultsA, resultA, toC, toCL, Nat.reduceEqDiff, he, (fa43_0 S.p), (fa47_0 S.p), (fa47_7 S.p), iaddr_ptr (un44 S.p) (sz43 S.p), iaddr_ptr (un45 S.p) (sz44 S.p), part_sc (ag3 S.p), g1, cells_self, cells_other, Nat.zero_add, Nat.add_zero]
  refine ends_cond (fun hc1 => ?_) (fun hc1 => ?_)
  · simp only [decide_eq_true_eq] at hc1
    have hi8 : i < 8 := by omega
    have g2 := refC_wt V ho hi8
    have p1 := wtR_pos I o i
    cases q1 : (getP ((o : Int), (i : Int)) V.waits).isSome with
    | true =>
      rw [q1] at p1
      have hne : ¬ thrV V.waits o = [] := fun q => by
        have := (thrV_nil I.ok.wd).1 q i
        rw [this] at q1; cases q1
      rw [decide_eq_false hne]
      simp (maxSteps := 1000000) (disch := first | omega | (simp (disch := first | omega | (simp only [EvV.len, MonV.len, refC_len, List.length_append, List.length_cons, List.length_nil, List.length_set]; first | done | omega)) only [EvV.len, MonV.len, refC_len, amSide, Int.reduceToNat, Nat.reducePow, Nat.reduceMul]; first | done | omega)) only  [↓amPre, amPost, ↓s_lit', Nat.reduceAdd, Nat.reduceSub, List.replicate, retA, resultsA, resultA, toC, toCL, Nat.reduceEqDiff, he, (fa43_0 S.p), (fa47_0 S.p), (fa47_7 S.p), iaddr_ptr (un44 S.p) (sz43 S.p), iaddr_ptr (un45 S.p) (sz44 S.p), part_sc (ag3 S.p), g1, g2, p1, dec_t, idx_ok, cells_self, cells_other, Int.toNat_natCast, Nat.zero_add, Nat.add_zero]
      exact Ends.some rfl
    | false =>
      rw [q1] at p1
      simp (maxSteps := 1000000) (disch := first | omega | (simp (disch := first | omega | (simp only [EvV.len, MonV.len, refC_len, List.length_append, List.length_cons, List.length_nil, List.length_set]; first | done | omega)) only [EvV.len, MonV.len, refC_len, amSide, Int.reduceToNat, Nat.reducePow, Nat.reduceMul]; first | done | omega)) only  [↓amPre, amPost, ↓s_lit', Nat.reduceAdd, Nat.reduceSub, List.replicate, retA, resultsA, resultA, toC, toCL, Nat.reduceEqDiff, he, (fa43_0 S.p), (fa47_0 S.p), (fa47_7 S.p), iaddr_ptr (un44 S.p) (sz43 S.p), iaddr_ptr (un45 S.p) (sz44 S.p), part_sc (ag3 S.p), g1, g2, p1, dec_t, idx_ok, cells_self, cells_other, Int.toNat_natCast, Nat.zero_add, Nat.add_zero, wrap_i64]
      refine hag ⟨i + 1⟩ ⟨by simp only; omega, fun k hk => ?_⟩ (by simp only; omega) _ ?_
      · simp only at hk
        rcases Nat.lt_succ_iff_lt_or_eq.1 hk with hk | rfl
        · exact hall k hk
        · exact Option.not_isSome_iff_eq_none.1 (by rw [q1]; simp)
      · simp (maxSteps := 1000000) (disch := first | omega | (simp (disch := first | omega | (simp only [EvV.len, MonV.len, refC_len, List.length_append, List.length_cons, List.length_nil, List.length_set]; first | done | omega)) only [EvV.len, MonV.len, refC_len, amSide, Int.reduceToNat, Nat.reducePow, Nat.reduceMul]; first | done | omega)) only [↓amPre, amPost, ↓s_lit', Nat.reduceAdd, Nat.reduceSub, List.replicate, retA, resultsA, resultA, toC, toCL, Nat.reduceEqDiff, Int.natCast_add, Int.cast_ofNat_Int, dec_t, dec_f]
  · simp only [decide_eq_false_iff_not] at hc1
    obtain rfl : i = V.flags.length := by omega
    have hE : thrV V.waits o = [] := (thrV_nil I.ok.wd).2 fun t => by
      cases hg : getP ((o : Int), t) V.waits with
      | none => rfl
      | some v =>
        have hk := I.ok.wk _ (getP_mem hg)
        simp only at hk
        obtain ⟨k, rfl⟩ := Int.eq_ofNat_of_zero_le hk.2.1
        rw [hall k (by omega)] at hg; cases hg
    rw [decide_eq_true hE]
    simp (maxSteps := 1000000) (disch := first | omega | (simp (disch := first | omega | (simp only [EvV.len, MonV.len, refC_len, List.length_append, List.length_cons, List.length_nil, List.length_set]; first | done | omega)) only [EvV.len, MonV.len, refC_len, amSide, Int.reduceToNat, Nat.reducePow, Nat.reduceMul]; first | done | omega)) only  [↓amPre, amPost, ↓s_lit', Nat.reduceAdd, Nat.reduceSub, List.replicate, retA, resultsA, resultA, toC, toCL, Nat.reduceEqDiff, he, (fa43_0 S.p), (fa47_0 S.p), (fa47_7 S.p), iaddr_ptr (un44 S.p) (sz43 S.p), iaddr_ptr (un45 S.p) (sz44 S.p), part_sc (ag3 S.p)]
    exact Ends.some rfl
end
end Go.AM
/- Monitors' model: the document's Enter and Try. Conditions: none. -/
set_option linter.unusedVariables false
set_option linter.unusedSimpArgs false
set_option maxRecDepth 100000
-- NOTY: ze47, bu47
namespace Go.AM
open Go.Proofs
-- LENS: EvV.len, MonV.len, refC_len
theorem refF_free (V : MdV) (i : Nat) : (freeS (refF V i)).isSome = true := by
  unfold refF
  repeat' split
  all_goals rfl
theorem freeL_map (V : MdV) : ∀ l : List Nat, (freeL (l.map (refF V))).isSome = true
  | [] => rfl
  | i :: l => by
    obtain ⟨v, hv⟩ := Option.isSome_iff_exists.1 (refF_free V i)
    obtain ⟨w, hw⟩ := Option.isSome_iff_exists.1 (freeL_map V l)
    simp only [List.map_cons, freeL, hv, hw, Option.bind_some, Option.map_some, Option.isSome_some]
theorem refC_fr (V : MdV) (b : Bool) : (freeA (.tup [.ag (refC V), .sc (.bool b)])).isSome = true := by
  obtain ⟨w, hw⟩ := Option.isSome_iff_exists.1 (freeL_map V (List.range 227))
  simp only [freeA, freeCL, freeC, refC, hw, freeS, Option.bind_some, Option.map_some, Option.isSome_some]
theorem refC_fr2 (V : MdV) (n : Int) : (freeA (.tup [.ag (refC V), .sc (.int .i64 n)])).isSome = true := by
  obtain ⟨w, hw⟩ := Option.isSome_iff_exists.1 (freeL_map V (List.range 227))
  simp only [freeA, freeCL, freeC, refC, hw, freeS, Option.bind_some, Option.map_some, Option.isSome_some]
theorem ownR_of {V : MdV} {o : Nat} {x : MonV} (h : V.mons[o]? = some x) : ownR V o = x.own + 1 := by unfold ownR; rw [h]
theorem cntR_of {V : MdV} {o : Nat} {x : MonV} (h : V.mons[o]? = some x) : cntR V o = x.cnt := by unfold cntR; rw [h]
theorem hshR_of {V : MdV} {o : Nat} {x : MonV} (h : V.mons[o]? = some x) : hshR V o = x.hsh := by unfold hshR; rw [h]
theorem flgR_of {V : MdV} {t : Nat} {b : Bool} (h : V.flags[t]? = some b) : flgR V t = b := by unfold flgR; rw [h]
theorem splC (V W : MdV) : splice (refC V) 0 (refC W) = refC W := by
  unfold splice
  rw [List.take_zero, List.nil_append, Nat.zero_add, refC_len, List.drop_eq_nil_of_le (by rw [refC_len]; omega), List.append_nil]
/-- A model and whether it was so. -/
def tupM (V : MdV) (X : Option MdV) : AV := .tup [.ag (refC (X.getD V)), .sc (.bool X.isSome)]
theorem tupM_none (V : MdV) : tupM V none = .tup [.ag (refC V), .sc (.bool false)] := rfl
theorem tupM_some (V W : MdV) : tupM V (some W) = .tup [.ag (refC W), .sc (.bool true)] := rfl
section
variable {P : Program} {T : Tab} {K d : Nat} (S : Sd P T K)
include S
set_option maxHeartbeats 8000000 in
theorem s53 (hd : 1 ≤ d) {n m : Nat} {c : Int} {V : MdV} (I : MdI n m c V) (hc : 1 ≤ c ∧ c ≤ 60) (e : EvV) {ob : Nat} {o : MonV} (ho : e.o = (ob : Int)) (hx : V.mons[ob]? = some o) {th : Nat} (ht : e.t = (th : Int)) (hth : th < n) (lk : Nat) (h : List AO) :
    ev P T K d 53 [.ag (refC V), .ag e.cells] lk h = some (tupM V (enterV V e o), h) := by
  obtain ⟨d, rfl⟩ : ∃ k, d = k + 1 := ⟨d - 1, by omega⟩
  refine ev_pure (at53 S.t) (refC_fr _ _) ?_
  unfold i53 Try.f53
  have hto : e.o.toNat = ob := by rw [ho]; rfl
  have hob := (List.getElem?_eq_some_iff.1 hx).1
  have hm8 := I.ok.m
  have hn8 := I.ok.n
  have hfn := I.fn
  have hmc := I.mc
  have hown := I.own ob o hx
  have h8 : ob < 8 := by omega
  have e0 := e.c0
  have e1 := e.c1
  have e2 := e.c2
  have e4 := e.c4
  rw [ho] at e2
  rw [ht] at e1
  have hz := ze47r S
  have hpV := partV S V
  have g0 := refC_own V h8
  rw [ownR_of hx] at g0
  have g1 := refC_cnt V h8
  rw [cntR_of hx] at g1
  have g2 := refC_most V
  unfold enterV
  rw [hto]
  have hq1 : (o.own + 1 != 0) = decide (o.own ≠ -1) := by
    by_cases q : o.own = -1
    · rw [decide_eq_false (fun r => r q), q]; rfl
    · rw [decide_eq_true q]; exact bneI_t (by omega)
  have hq2 : (o.own + 1 != (th : Int) + 1) = decide (o.own ≠ e.t) := by
    rw [ht]
    by_cases q : o.own = (th : Int)
    · rw [decide_eq_false (fun r => r q), q]; exact bne_self_eq_false _
    · rw [decide_eq_true q]; exact bneI_t (by omega)
  have hq3 : (o.own + 1 == (th : Int) + 1) = decide (o.own = e.t) := by
    rw [ht]
    by_cases q : o.own = (th : Int)
    · rw [decide_eq_true q, q]; exact beq_self_eq_true _
    · rw [decide_eq_false q]; exact beqI_f (by omega)
  have hge : decide (o.cnt ≥ V.most) = decide (o.cnt = V.most) := by
    by_cases q : o.cnt = V.most
    · rw [decide_eq_true q, decide_eq_true (by omega)]
    · rw [decide_eq_false q, decide_eq_false (by omega)]
  by_cases c0 : e.e = 0
  · rw [if_pos c0]
    by_cases a1 : o.own = -1
    · have z1 := decide_eq_false (fun r : o.own ≠ -1 => r a1)
      by_cases cc : o.cnt = V.most
      · exfalso; omega
      · rw [if_neg (fun q => q.elim (fun q => q.2 a1) cc), tupM_some]
        rw [decide_eq_false cc] at hge
        have st1 := refC_setOwn h8 hx e.t
        rw [ht] at st1
        have hx2 : (V.setM ob ⟨(th : Int), o.cnt, o.hsh⟩).mons[ob]? = some ⟨(th : Int), o.cnt, o.hsh⟩ := List.getElem?_set_self hob
        have st2 := refC_setCnt h8 hx2 (o.cnt + 1)
        have g3 := refC_cnt (V.setM ob ⟨(th : Int), o.cnt, o.hsh⟩) h8
        rw [cntR_of hx2] at g3
        have hVV : (V.setM ob ⟨(th : Int), o.cnt, o.hsh⟩).setM ob ⟨(th : Int), o.cnt + 1, o.hsh⟩ = V.setM ob ⟨(th : Int), o.cnt + 1, o.hsh⟩ := by simp [MdV.setM]
        simp only at st2
        rw [hVV] at st2
        have hpV2 := partV S (V.setM ob ⟨(th : Int), o.cnt + 1, o.hsh⟩)
        rw [ht]
        simp (maxSteps := 1000000) (disch := first | omega | (simp (disch := first | omega | (simp only [EvV.len, MonV.len, refC_len, List.length_append, List.length_cons, List.length_nil, List.length_set]; first | done | omega)) only [EvV.len, MonV.len, refC_len, amSide, Int.reduceToNat, Nat.reducePow, Nat.reduceMul]; first | done | omega)) only  [↓amPre, amPost, ↓s_lit', Nat.reduceAdd, Nat.reduceSub, List.replicate, retA, resultsA, resultA, toC, toCL, Nat.reduceEqDiff, (fa29_0 S.p), (fa29_1 S.p), (fa29_2 S.p), (fa29_4 S.p), (fa47_2 S.p), (fa47_3 S.p), (fa47_4 S.p), iaddr_ptr (un40 S.p) (sz3 S.p), part_sc (ag3 S.p), part_all (ag47 S.p) (sz47 S.p), part_at (ag47 S.p) (sz47 S.p), store_last (sz3 S.p), (sz3 S.p), store_last (sz47 S.p), (sz47 S.p), hz, hpV, hpV2, g0, g1, g2, g3, e0, e1, e2, e4, hq1, z1, hge, st1, st2, splC, splice_one, beqI_t, beqI_f, idx_ok, cells_self, cells_other, Int.toNat_natCast, Nat.mul_one, Nat.zero_add, Nat.add_zero, wrap_i64]
        exact Ends.some rfl
    · have z1 := decide_eq_true (show o.own ≠ -1 from a1)
      by_cases a2 : o.own = e.t
      · have z2 := decide_eq_false (fun r : o.own ≠ e.t => r a2)
        by_cases cc : o.cnt = V.most
        · rw [if_pos (Or.inr cc), tupM_none]
          rw [decide_eq_true cc] at hge
          simp (maxSteps := 1000000) (disch := first | omega | (simp (disch := first | omega | (simp only [EvV.len, MonV.len, refC_len, List.length_append, List.length_cons, List.length_nil, List.length_set]; first | done | omega)) only [EvV.len, MonV.len, refC_len, amSide, Int.reduceToNat, Nat.reducePow, Nat.reduceMul]; first | done | omega)) only  [↓amPre, amPost, ↓s_lit', Nat.reduceAdd, Nat.reduceSub, List.replicate, retA, resultsA, resultA, toC, toCL, Nat.reduceEqDiff, (fa29_0 S.p), (fa29_1 S.p), (fa29_2 S.p), (fa29_4 S.p), (fa47_2 S.p), (fa47_3 S.p), (fa47_4 S.p), iaddr_ptr (un40 S.p) (sz3 S.p), part_sc (ag3 S.p), part_all (ag47 S.p) (sz47 S.p), part_at (ag47 S.p) (sz47 S.p), store_last (sz3 S.p), (sz3 S.p), store_last (sz47 S.p), (sz47 S.p), hz, hpV, g0, g1, g2, e0, e1, e2, e4, hq1, hq2, z1, z2, hge, splC, beqI_t, beqI_f, idx_ok, cells_self, cells_other, Int.toNat_natCast, Nat.mul_one, Nat.zero_add, Nat.add_zero, wrap_i64]
          exact Ends.some rfl
        · rw [if_neg (fun q => q.elim (fun q => q.1 a2) cc), tupM_some]
          rw [decide_eq_false cc] at hge
          have st1 := refC_setOwn h8 hx e.t
          rw [ht] at st1
          have hx2 : (V.setM ob ⟨(th : Int), o.cnt, o.hsh⟩).mons[ob]? = some ⟨(th : Int), o.cnt, o.hsh⟩ := List.getElem?_set_self hob
          have st2 := refC_setCnt h8 hx2 (o.cnt + 1)
          have g3 := refC_cnt (V.setM ob ⟨(th : Int), o.cnt, o.hsh⟩) h8
          rw [cntR_of hx2] at g3
          have hVV : (V.setM ob ⟨(th : Int), o.cnt, o.hsh⟩).setM ob ⟨(th : Int), o.cnt + 1, o.hsh⟩ = V.setM ob ⟨(th : Int), o.cnt + 1, o.hsh⟩ := by simp [MdV.setM]
          simp only at st2
          rw [hVV] at st2
          have hpV2 := partV S (V.setM ob ⟨(th : Int), o.cnt + 1, o.hsh⟩)
          rw [ht] at z2 hq2 ⊢
          simp (maxSteps := 1000000) (disch := first | omega | (simp (disch := first | omega | (simp only [EvV.len, MonV.len, refC_len, List.length_append, List.length_cons, List.length_nil, List.length_set]; first | done | omega)) only [EvV.len, MonV.len, refC_len, amSide, Int.reduceToNat, Nat.reducePow, Nat.reduceMul]; first | done | omega)) only  [↓amPre, amPost, ↓s_lit', Nat.reduceAdd, Nat.reduceSub, List.replicate, retA, resultsA, resultA, toC, toCL, Nat.reduceEqDiff, (fa29_0 S.p), (fa29_1 S.p), (fa29_2 S.p), (fa29_4 S.p), (fa47_2 S.p), (fa47_3 S.p), (fa47_4 S.p), iaddr_ptr (un40 S.p) (sz3 S.p), part_sc (ag3 S.p), part_all (ag47 S.p) (sz47 S.p), part_at (ag47 S.p) (sz47 S.p), store_last (sz3 S.p), (sz3 S.p), store_last (sz47 S.p), (sz47 S.p), hz, hpV, hpV2, g0, g1, g2, g3, e0, e1, e2, e4, hq1, hq2, z1, z2, hge, st1, st2, splC, splice_one, beqI_t, beqI_f, idx_ok, cells_self, cells_other, Int.toNat_natCast, Nat.mul_one, Nat.zero_add, Nat.add_zero, wrap_i64]
          exact Ends.some rfl
      · have z2 := decide_eq_true (show o.own ≠ e.t from a2)
        rw [if_pos (Or.inl ⟨a2, a1⟩), tupM_none]
        simp (maxSteps := 1000000) (disch := first | omega | (simp (disch := first | omega | (simp only [EvV.len, MonV.len, refC_len, List.length_append, List.length_cons, List.length_nil, List.length_set]; first | done | omega)) only [EvV.len, MonV.len, refC_len, amSide, Int.reduceToNat, Nat.reducePow, Nat.reduceMul]; first | done | omega)) only  [↓amPre, amPost, ↓s_lit', Nat.reduceAdd, Nat.reduceSub, List.replicate, retA, resultsA, resultA, toC, toCL, Nat.reduceEqDiff, (fa29_0 S.p), (fa29_1 S.p), (fa29_2 S.p), (fa29_4 S.p), (fa47_2 S.p), (fa47_3 S.p), (fa47_4 S.p), iaddr_ptr (un40 S.p) (sz3 S.p), part_sc (ag3 S.p), part_all (ag47 S.p) (sz47 S.p), part_at (ag47 S.p) (sz47 S.p), store_last (sz3 S.p), (sz3 S.p), store_last (sz47 S.p), (sz47 S.p), hz, hpV, g0, g1, g2, e0, e1, e2, e4, hq1, hq2, z1, z2, splC, beqI_t, beqI_f, idx_ok, cells_self, cells_other, Int.toNat_natCast, Nat.mul_one, Nat.zero_add, Nat.add_zero, wrap_i64]
        exact Ends.some rfl
  · rw [if_neg c0]
    by_cases a1 : o.own = -1
    · have z1 := decide_eq_false (fun r : o.own ≠ -1 => r a1)
      have n2 : ¬ o.own = e.t := by omega
      have z3 := decide_eq_false n2
      by_cases c10 : e.e = 10
      · rw [if_pos c10]
        rw [if_neg (fun q => n2 q.1)]
        rw [tupM_none]
        simp (maxSteps := 1000000) (disch := first | omega | (simp (disch := first | omega | (simp only [EvV.len, MonV.len, refC_len, List.length_append, List.length_cons, List.length_nil, List.length_set]; first | done | omega)) only [EvV.len, MonV.len, refC_len, amSide, Int.reduceToNat, Nat.reducePow, Nat.reduceMul]; first | done | omega)) only  [↓amPre, amPost, ↓s_lit', Nat.reduceAdd, Nat.reduceSub, List.replicate, retA, resultsA, resultA, toC, toCL, Nat.reduceEqDiff, (fa29_0 S.p), (fa29_1 S.p), (fa29_2 S.p), (fa29_4 S.p), (fa47_2 S.p), (fa47_3 S.p), (fa47_4 S.p), iaddr_ptr (un40 S.p) (sz3 S.p), part_sc (ag3 S.p), part_all (ag47 S.p) (sz47 S.p), part_at (ag47 S.p) (sz47 S.p), store_last (sz3 S.p), (sz3 S.p), store_last (sz47 S.p), (sz47 S.p), hz, hpV, g0, g1, g2, e0, e1, e2, e4, hq1, z1, hq3, z3, splC, beqI_t, beqI_f, idx_ok, cells_self, cells_other, Int.toNat_natCast, Nat.mul_one, Nat.zero_add, Nat.add_zero, wrap_i64]
        exact Ends.some rfl
      rw [if_neg c10]
      by_cases c11 : e.e = 11
      · rw [if_pos c11]
        by_cases ck : e.k = 1
        · rw [if_neg (fun q => q.2.2 a1)]
          rw [tupM_none]
          simp (maxSteps := 1000000) (disch := first | omega | (simp (disch := first | omega | (simp only [EvV.len, MonV.len, refC_len, List.length_append, List.length_cons, List.length_nil, List.length_set]; first | done | omega)) only [EvV.len, MonV.len, refC_len, amSide, Int.reduceToNat, Nat.reducePow, Nat.reduceMul]; first | done | omega)) only  [↓amPre, amPost, ↓s_lit', Nat.reduceAdd, Nat.reduceSub, List.replicate, retA, resultsA, resultA, toC, toCL, Nat.reduceEqDiff, (fa29_0 S.p), (fa29_1 S.p), (fa29_2 S.p), (fa29_4 S.p), (fa47_2 S.p), (fa47_3 S.p), (fa47_4 S.p), iaddr_ptr (un40 S.p) (sz3 S.p), part_sc (ag3 S.p), part_all (ag47 S.p) (sz47 S.p), part_at (ag47 S.p) (sz47 S.p), store_last (sz3 S.p), (sz3 S.p), store_last (sz47 S.p), (sz47 S.p), hz, hpV, g0, g1, g2, e0, e1, e2, e4, hq1, z1, splC, beqI_t, beqI_f, idx_ok, cells_self, cells_other, Int.toNat_natCast, Nat.mul_one, Nat.zero_add, Nat.add_zero, wrap_i64]
          exact Ends.some rfl
        · rw [if_neg (fun q => ck q.1)]
          rw [tupM_none]
          simp (maxSteps := 1000000) (disch := first | omega | (simp (disch := first | omega | (simp only [EvV.len, MonV.len, refC_len, List.length_append, List.length_cons, List.length_nil, List.length_set]; first | done | omega)) only [EvV.len, MonV.len, refC_len, amSide, Int.reduceToNat, Nat.reducePow, Nat.reduceMul]; first | done | omega)) only  [↓amPre, amPost, ↓s_lit', Nat.reduceAdd, Nat.reduceSub, List.replicate, retA, resultsA, resultA, toC, toCL, Nat.reduceEqDiff, (fa29_0 S.p), (fa29_1 S.p), (fa29_2 S.p), (fa29_4 S.p), (fa47_2 S.p), (fa47_3 S.p), (fa47_4 S.p), iaddr_ptr (un40 S.p) (sz3 S.p), part_sc (ag3 S.p), part_all (ag47 S.p) (sz47 S.p), part_at (ag47 S.p) (sz47 S.p), store_last (sz3 S.p), (sz3 S.p), store_last (sz47 S.p), (sz47 S.p), hz, hpV, g0, g1, g2, e0, e1, e2, e4, hq1, z1, splC, beqI_t, beqI_f, idx_ok, cells_self, cells_other, Int.toNat_natCast, Nat.mul_one, Nat.zero_add, Nat.add_zero, wrap_i64]
          exact Ends.some rfl
      rw [if_neg c11]
      by_cases c14 : e.e = 14
      · rw [if_pos c14]
        by_cases ck : e.k = 2
        · rw [if_neg (fun q => q.2.2 a1)]
          rw [tupM_none]
          simp (maxSteps := 1000000) (disch := first | omega | (simp (disch := first | omega | (simp only [EvV.len, MonV.len, refC_len, List.length_append, List.length_cons, List.length_nil, List.length_set]; first | done | omega)) only [EvV.len, MonV.len, refC_len, amSide, Int.reduceToNat, Nat.reducePow, Nat.reduceMul]; first | done | omega)) only  [↓amPre, amPost, ↓s_lit', Nat.reduceAdd, Nat.reduceSub, List.replicate, retA, resultsA, resultA, toC, toCL, Nat.reduceEqDiff, (fa29_0 S.p), (fa29_1 S.p), (fa29_2 S.p), (fa29_4 S.p), (fa47_2 S.p), (fa47_3 S.p), (fa47_4 S.p), iaddr_ptr (un40 S.p) (sz3 S.p), part_sc (ag3 S.p), part_all (ag47 S.p) (sz47 S.p), part_at (ag47 S.p) (sz47 S.p), store_last (sz3 S.p), (sz3 S.p), store_last (sz47 S.p), (sz47 S.p), hz, hpV, g0, g1, g2, e0, e1, e2, e4, hq1, z1, splC, beqI_t, beqI_f, idx_ok, cells_self, cells_other, Int.toNat_natCast, Nat.mul_one, Nat.zero_add, Nat.add_zero, wrap_i64]
          exact Ends.some rfl
        · rw [if_neg (fun q => ck q.1)]
          rw [tupM_none]
          simp (maxSteps := 1000000) (disch := first | omega | (simp (disch := first | omega | (simp only [EvV.len, MonV.len, refC_len, List.length_append, List.length_cons, List.length_nil, List.length_set]; first | done | omega)) only [EvV.len, MonV.len, refC_len, amSide, Int.reduceToNat, Nat.reducePow, Nat.reduceMul]; first | done | omega)) only  [↓amPre, amPost, ↓s_lit', Nat.reduceAdd, Nat.reduceSub, List.replicate, retA, resultsA, resultA, toC, toCL, Nat.reduceEqDiff, (fa29_0 S.p), (fa29_1 S.p), (fa29_2 S.p), (fa29_4 S.p), (fa47_2 S.p), (fa47_3 S.p), (fa47_4 S.p), iaddr_ptr (un40 S.p) (sz3 S.p), part_sc (ag3 S.p), part_all (ag47 S.p) (sz47 S.p), part_at (ag47 S.p) (sz47 S.p), store_last (sz3 S.p), (sz3 S.p), store_last (sz47 S.p), (sz47 S.p), hz, hpV, g0, g1, g2, e0, e1, e2, e4, hq1, z1, splC, beqI_t, beqI_f, idx_ok, cells_self, cells_other, Int.toNat_natCast, Nat.mul_one, Nat.zero_add, Nat.add_zero, wrap_i64]
          exact Ends.some rfl
      rw [if_neg c14]
      rw [tupM_none]
      simp (maxSteps := 1000000) (disch := first | omega | (simp (disch := first | omega | (simp only [EvV.len, MonV.len, refC_len, List.length_append, List.length_cons, List.length_nil, List.length_set]; first | done | omega)) only [EvV.len, MonV.len, refC_len, amSide, Int.reduceToNat, Nat.reducePow, Nat.reduceMul]; first | done | omega)) only  [↓amPre, amPost, ↓s_lit', Nat.reduceAdd, Nat.reduceSub, List.replicate, retA, resultsA, resultA, toC, toCL, Nat.reduceEqDiff, (fa29_0 S.p), (fa29_1 S.p), (fa29_2 S.p), (fa29_4 S.p), (fa47_2 S.p), (fa47_3 S.p), (fa47_4 S.p), iaddr_ptr (un40 S.p) (sz3 S.p), part_sc (ag3 S.p), part_all (ag47 S.p) (sz47 S.p), part_at (ag47 S.p) (sz47 S.p), store_last (sz3 S.p), (sz3 S.p), store_last (sz47 S.p), (sz47 S.p), hz, hpV, g0, g1, g2, e0, e1, e2, e4, hq1, z1, splC, beqI_t, beqI_f, idx_ok, cells_self, cells_other, Int.toNat_natCast, Nat.mul_one, Nat.zero_add, Nat.add_zero, wrap_i64]
      exact Ends.some rfl
    have z1 := decide_eq_true (show o.own ≠ -1 from a1)
    by_cases a2 : o.own = e.t
    · have z2 := decide_eq_false (fun r : o.own ≠ e.t => r a2)
      have z3 := decide_eq_true a2
      by_cases c10 : e.e = 10
      · rw [if_pos c10]
        by_cases cc : o.cnt = V.most
        · rw [if_pos ⟨a2, cc⟩]
          rw [decide_eq_true cc] at hge
          rw [tupM_some]
          simp (maxSteps := 1000000) (disch := first | omega | (simp (disch := first | omega | (simp only [EvV.len, MonV.len, refC_len, List.length_append, List.length_cons, List.length_nil, List.length_set]; first | done | omega)) only [EvV.len, MonV.len, refC_len, amSide, Int.reduceToNat, Nat.reducePow, Nat.reduceMul]; first | done | omega)) only  [↓amPre, amPost, ↓s_lit', Nat.reduceAdd, Nat.reduceSub, List.replicate, retA, resultsA, resultA, toC, toCL, Nat.reduceEqDiff, (fa29_0 S.p), (fa29_1 S.p), (fa29_2 S.p), (fa29_4 S.p), (fa47_2 S.p), (fa47_3 S.p), (fa47_4 S.p), iaddr_ptr (un40 S.p) (sz3 S.p), part_sc (ag3 S.p), part_all (ag47 S.p) (sz47 S.p), part_at (ag47 S.p) (sz47 S.p), store_last (sz3 S.p), (sz3 S.p), store_last (sz47 S.p), (sz47 S.p), hz, hpV, g0, g1, g2, e0, e1, e2, e4, hq1, hq2, z1, z2, hq3, z3, hge, splC, beqI_t, beqI_f, idx_ok, cells_self, cells_other, Int.toNat_natCast, Nat.mul_one, Nat.zero_add, Nat.add_zero, wrap_i64]
          exact Ends.some rfl
        · rw [if_neg (fun q => cc q.2)]
          rw [decide_eq_false cc] at hge
          rw [tupM_none]
          simp (maxSteps := 1000000) (disch := first | omega | (simp (disch := first | omega | (simp only [EvV.len, MonV.len, refC_len, List.length_append, List.length_cons, List.length_nil, List.length_set]; first | done | omega)) only [EvV.len, MonV.len, refC_len, amSide, Int.reduceToNat, Nat.reducePow, Nat.reduceMul]; first | done | omega)) only  [↓amPre, amPost, ↓s_lit', Nat.reduceAdd, Nat.reduceSub, List.replicate, retA, resultsA, resultA, toC, toCL, Nat.reduceEqDiff, (fa29_0 S.p), (fa29_1 S.p), (fa29_2 S.p), (fa29_4 S.p), (fa47_2 S.p), (fa47_3 S.p), (fa47_4 S.p), iaddr_ptr (un40 S.p) (sz3 S.p), part_sc (ag3 S.p), part_all (ag47 S.p) (sz47 S.p), part_at (ag47 S.p) (sz47 S.p), store_last (sz3 S.p), (sz3 S.p), store_last (sz47 S.p), (sz47 S.p), hz, hpV, g0, g1, g2, e0, e1, e2, e4, hq1, hq2, z1, z2, hq3, z3, hge, splC, beqI_t, beqI_f, idx_ok, cells_self, cells_other, Int.toNat_natCast, Nat.mul_one, Nat.zero_add, Nat.add_zero, wrap_i64]
          exact Ends.some rfl
      rw [if_neg c10]
      by_cases c11 : e.e = 11
      · rw [if_pos c11]
        by_cases ck : e.k = 1
        · rw [if_neg (fun q => q.2.1 a2)]
          rw [tupM_none]
          simp (maxSteps := 1000000) (disch := first | omega | (simp (disch := first | omega | (simp only [EvV.len, MonV.len, refC_len, List.length_append, List.length_cons, List.length_nil, List.length_set]; first | done | omega)) only [EvV.len, MonV.len, refC_len, amSide, Int.reduceToNat, Nat.reducePow, Nat.reduceMul]; first | done | omega)) only  [↓amPre, amPost, ↓s_lit', Nat.reduceAdd, Nat.reduceSub, List.replicate, retA, resultsA, resultA, toC, toCL, Nat.reduceEqDiff, (fa29_0 S.p), (fa29_1 S.p), (fa29_2 S.p), (fa29_4 S.p), (fa47_2 S.p), (fa47_3 S.p), (fa47_4 S.p), iaddr_ptr (un40 S.p) (sz3 S.p), part_sc (ag3 S.p), part_all (ag47 S.p) (sz47 S.p), part_at (ag47 S.p) (sz47 S.p), store_last (sz3 S.p), (sz3 S.p), store_last (sz47 S.p), (sz47 S.p), hz, hpV, g0, g1, g2, e0, e1, e2, e4, hq1, hq2, z1, z2, splC, beqI_t, beqI_f, idx_ok, cells_self, cells_other, Int.toNat_natCast, Nat.mul_one, Nat.zero_add, Nat.add_zero, wrap_i64]
          exact Ends.some rfl
        · rw [if_neg (fun q => ck q.1)]
          rw [tupM_none]
          simp (maxSteps := 1000000) (disch := first | omega | (simp (disch := first | omega | (simp only [EvV.len, MonV.len, refC_len, List.length_append, List.length_cons, List.length_nil, List.length_set]; first | done | omega)) only [EvV.len, MonV.len, refC_len, amSide, Int.reduceToNat, Nat.reducePow, Nat.reduceMul]; first | done | omega)) only  [↓amPre, amPost, ↓s_lit', Nat.reduceAdd, Nat.reduceSub, List.replicate, retA, resultsA, resultA, toC, toCL, Nat.reduceEqDiff, (fa29_0 S.p), (fa29_1 S.p), (fa29_2 S.p), (fa29_4 S.p), (fa47_2 S.p), (fa47_3 S.p), (fa47_4 S.p), iaddr_ptr (un40 S.p) (sz3 S.p), part_sc (ag3 S.p), part_all (ag47 S.p) (sz47 S.p), part_at (ag47 S.p) (sz47 S.p), store_last (sz3 S.p), (sz3 S.p), store_last (sz47 S.p), (sz47 S.p), hz, hpV, g0, g1, g2, e0, e1, e2, e4, hq1, hq2, z1, z2, splC, beqI_t, beqI_f, idx_ok, cells_self, cells_other, Int.toNat_natCast, Nat.mul_one, Nat.zero_add, Nat.add_zero, wrap_i64]
          exact Ends.some rfl
      rw [if_neg c11]
      by_cases c14 : e.e = 14
      · rw [if_pos c14]
        by_cases ck : e.k = 2
        · rw [if_neg (fun q => q.2.1 a2)]
          rw [tupM_none]
          simp (maxSteps := 1000000) (disch := first | omega | (simp (disch := first | omega | (simp only [EvV.len, MonV.len, refC_len, List.length_append, List.length_cons, List.length_nil, List.length_set]; first | done | omega)) only [EvV.len, MonV.len, refC_len, amSide, Int.reduceToNat, Nat.reducePow, Nat.reduceMul]; first | done | omega)) only  [↓amPre, amPost, ↓s_lit', Nat.reduceAdd, Nat.reduceSub, List.replicate, retA, resultsA, resultA, toC, toCL, Nat.reduceEqDiff, (fa29_0 S.p), (fa29_1 S.p), (fa29_2 S.p), (fa29_4 S.p), (fa47_2 S.p), (fa47_3 S.p), (fa47_4 S.p), iaddr_ptr (un40 S.p) (sz3 S.p), part_sc (ag3 S.p), part_all (ag47 S.p) (sz47 S.p), part_at (ag47 S.p) (sz47 S.p), store_last (sz3 S.p), (sz3 S.p), store_last (sz47 S.p), (sz47 S.p), hz, hpV, g0, g1, g2, e0, e1, e2, e4, hq1, hq2, z1, z2, splC, beqI_t, beqI_f, idx_ok, cells_self, cells_other, Int.toNat_natCast, Nat.mul_one, Nat.zero_add, Nat.add_zero, wrap_i64]
          exact Ends.some rfl
        · rw [if_neg (fun q => ck q.1)]
          rw [tupM_none]
          simp (maxSteps := 1000000) (disch := first | omega | (simp (disch := first | omega | (simp only [EvV.len, MonV.len, refC_len, List.length_append, List.length_cons, List.length_nil, List.length_set]; first | done | omega)) only [EvV.len, MonV.len, refC_len, amSide, Int.reduceToNat, Nat.reducePow, Nat.reduceMul]; first | done | omega)) only  [↓amPre, amPost, ↓s_lit', Nat.reduceAdd, Nat.reduceSub, List.replicate, retA, resultsA, resultA, toC, toCL, Nat.reduceEqDiff, (fa29_0 S.p), (fa29_1 S.p), (fa29_2 S.p), (fa29_4 S.p), (fa47_2 S.p), (fa47_3 S.p), (fa47_4 S.p), iaddr_ptr (un40 S.p) (sz3 S.p), part_sc (ag3 S.p), part_all (ag47 S.p) (sz47 S.p), part_at (ag47 S.p) (sz47 S.p), store_last (sz3 S.p), (sz3 S.p), store_last (sz47 S.p), (sz47 S.p), hz, hpV, g0, g1, g2, e0, e1, e2, e4, hq1, hq2, z1, z2, splC, beqI_t, beqI_f, idx_ok, cells_self, cells_other, Int.toNat_natCast, Nat.mul_one, Nat.zero_add, Nat.add_zero, wrap_i64]
          exact Ends.some rfl
      rw [if_neg c14]
      rw [tupM_none]
      simp (maxSteps := 1000000) (disch := first | omega | (simp (disch := first | omega | (simp only [EvV.len, MonV.len, refC_len, List.length_append, List.length_cons, List.length_nil, List.length_set]; first | done | omega)) only [EvV.len, MonV.len, refC_len, amSide, Int.reduceToNat, Nat.reducePow, Nat.reduceMul]; first | done | omega)) only  [↓amPre, amPost, ↓s_lit', Nat.reduceAdd, Nat.reduceSub, List.replicate, retA, resultsA, resultA, toC, toCL, Nat.reduceEqDiff, (fa29_0 S.p), (fa29_1 S.p), (fa29_2 S.p), (fa29_4 S.p), (fa47_2 S.p), (fa47_3 S.p), (fa47_4 S.p), iaddr_ptr (un40 S.p) (sz3 S.p), part_sc (ag3 S.p), part_all (ag47 S.p) (sz47 S.p), part_at (ag47 S.p) (sz47 S.p), store_last (sz3 S.p), (sz3 S.p), store_last (sz47 S.p), (sz47 S.p), hz, hpV, g0, g1, g2, e0, e1, e2, e4, hq1, hq2, z1, z2, splC, beqI_t, beqI_f, idx_ok, cells_self, cells_other, Int.toNat_natCast, Nat.mul_one, Nat.zero_add, Nat.add_zero, wrap_i64]
      exact Ends.some rfl
    have z2 := decide_eq_true (show o.own ≠ e.t from a2)
    have n2 : ¬ o.own = e.t := a2
    have z3 := decide_eq_false n2
    by_cases c10 : e.e = 10
    · rw [if_pos c10]
      rw [if_neg (fun q => n2 q.1)]
      rw [tupM_none]
      simp (maxSteps := 1000000) (disch := first | omega | (simp (disch := first | omega | (simp only [EvV.len, MonV.len, refC_len, List.length_append, List.length_cons, List.length_nil, List.length_set]; first | done | omega)) only [EvV.len, MonV.len, refC_len, amSide, Int.reduceToNat, Nat.reducePow, Nat.reduceMul]; first | done | omega)) only  [↓amPre, amPost, ↓s_lit', Nat.reduceAdd, Nat.reduceSub, List.replicate, retA, resultsA, resultA, toC, toCL, Nat.reduceEqDiff, (fa29_0 S.p), (fa29_1 S.p), (fa29_2 S.p), (fa29_4 S.p), (fa47_2 S.p), (fa47_3 S.p), (fa47_4 S.p), iaddr_ptr (un40 S.p) (sz3 S.p), part_sc (ag3 S.p), part_all (ag47 S.p) (sz47 S.p), part_at (ag47 S.p) (sz47 S.p), store_last (sz3 S.p), (sz3 S.p), store_last (sz47 S.p), (sz47 S.p), hz, hpV, g0, g1, g2, e0, e1, e2, e4, hq1, hq2, z1, z2, hq3, z3, splC, beqI_t, beqI_f, idx_ok, cells_self, cells_other, Int.toNat_natCast, Nat.mul_one, Nat.zero_add, Nat.add_zero, wrap_i64]
      exact Ends.some rfl
    rw [if_neg c10]
    by_cases c11 : e.e = 11
    · rw [if_pos c11]
      by_cases ck : e.k = 1
      · rw [if_pos ⟨ck, a2, a1⟩]
        rw [tupM_some]
        simp (maxSteps := 1000000) (disch := first | omega | (simp (disch := first | omega | (simp only [EvV.len, MonV.len, refC_len, List.length_append, List.length_cons, List.length_nil, List.length_set]; first | done | omega)) only [EvV.len, MonV.len, refC_len, amSide, Int.reduceToNat, Nat.reducePow, Nat.reduceMul]; first | done | omega)) only  [↓amPre, amPost, ↓s_lit', Nat.reduceAdd, Nat.reduceSub, List.replicate, retA, resultsA, resultA, toC, toCL, Nat.reduceEqDiff, (fa29_0 S.p), (fa29_1 S.p), (fa29_2 S.p), (fa29_4 S.p), (fa47_2 S.p), (fa47_3 S.p), (fa47_4 S.p), iaddr_ptr (un40 S.p) (sz3 S.p), part_sc (ag3 S.p), part_all (ag47 S.p) (sz47 S.p), part_at (ag47 S.p) (sz47 S.p), store_last (sz3 S.p), (sz3 S.p), store_last (sz47 S.p), (sz47 S.p), hz, hpV, g0, g1, g2, e0, e1, e2, e4, hq1, hq2, z1, z2, splC, beqI_t, beqI_f, idx_ok, cells_self, cells_other, Int.toNat_natCast, Nat.mul_one, Nat.zero_add, Nat.add_zero, wrap_i64]
        exact Ends.some rfl
      · rw [if_neg (fun q => ck q.1)]
        rw [tupM_none]
        simp (maxSteps := 1000000) (disch := first | omega | (simp (disch := first | omega | (simp only [EvV.len, MonV.len, refC_len, List.length_append, List.length_cons, List.length_nil, List.length_set]; first | done | omega)) only [EvV.len, MonV.len, refC_len, amSide, Int.reduceToNat, Nat.reducePow, Nat.reduceMul]; first | done | omega)) only  [↓amPre, amPost, ↓s_lit', Nat.reduceAdd, Nat.reduceSub, List.replicate, retA, resultsA, resultA, toC, toCL, Nat.reduceEqDiff, (fa29_0 S.p), (fa29_1 S.p), (fa29_2 S.p), (fa29_4 S.p), (fa47_2 S.p), (fa47_3 S.p), (fa47_4 S.p), iaddr_ptr (un40 S.p) (sz3 S.p), part_sc (ag3 S.p), part_all (ag47 S.p) (sz47 S.p), part_at (ag47 S.p) (sz47 S.p), store_last (sz3 S.p), (sz3 S.p), store_last (sz47 S.p), (sz47 S.p), hz, hpV, g0, g1, g2, e0, e1, e2, e4, hq1, hq2, z1, z2, splC, beqI_t, beqI_f, idx_ok, cells_self, cells_other, Int.toNat_natCast, Nat.mul_one, Nat.zero_add, Nat.add_zero, wrap_i64]
        exact Ends.some rfl
    rw [if_neg c11]
    by_cases c14 : e.e = 14
    · rw [if_pos c14]
      by_cases ck : e.k = 2
      · rw [if_pos ⟨ck, a2, a1⟩]
        rw [tupM_some]
        simp (maxSteps := 1000000) (disch := first | omega | (simp (disch := first | omega | (simp only [EvV.len, MonV.len, refC_len, List.length_append, List.length_cons, List.length_nil, List.length_set]; first | done | omega)) only [EvV.len, MonV.len, refC_len, amSide, Int.reduceToNat, Nat.reducePow, Nat.reduceMul]; first | done | omega)) only  [↓amPre, amPost, ↓s_lit', Nat.reduceAdd, Nat.reduceSub, List.replicate, retA, resultsA, resultA, toC, toCL, Nat.reduceEqDiff, (fa29_0 S.p), (fa29_1 S.p), (fa29_2 S.p), (fa29_4 S.p), (fa47_2 S.p), (fa47_3 S.p), (fa47_4 S.p), iaddr_ptr (un40 S.p) (sz3 S.p), part_sc (ag3 S.p), part_all (ag47 S.p) (sz47 S.p), part_at (ag47 S.p) (sz47 S.p), store_last (sz3 S.p), (sz3 S.p), store_last (sz47 S.p), (sz47 S.p), hz, hpV, g0, g1, g2, e0, e1, e2, e4, hq1, hq2, z1, z2, splC, beqI_t, beqI_f, idx_ok, cells_self, cells_other, Int.toNat_natCast, Nat.mul_one, Nat.zero_add, Nat.add_zero, wrap_i64]
        exact Ends.some rfl
      · rw [if_neg (fun q => ck q.1)]
        rw [tupM_none]
        simp (maxSteps := 1000000) (disch := first | omega | (simp (disch := first | omega | (simp only [EvV.len, MonV.len, refC_len, List.length_append, List.length_cons, List.length_nil, List.length_set]; first | done | omega)) only [EvV.len, MonV.len, refC_len, amSide, Int.reduceToNat, Nat.reducePow, Nat.reduceMul]; first | done | omega)) only  [↓amPre, amPost, ↓s_lit', Nat.reduceAdd, Nat.reduceSub, List.replicate, retA, resultsA, resultA, toC, toCL, Nat.reduceEqDiff, (fa29_0 S.p), (fa29_1 S.p), (fa29_2 S.p), (fa29_4 S.p), (fa47_2 S.p), (fa47_3 S.p), (fa47_4 S.p), iaddr_ptr (un40 S.p) (sz3 S.p), part_sc (ag3 S.p), part_all (ag47 S.p) (sz47 S.p), part_at (ag47 S.p) (sz47 S.p), store_last (sz3 S.p), (sz3 S.p), store_last (sz47 S.p), (sz47 S.p), hz, hpV, g0, g1, g2, e0, e1, e2, e4, hq1, hq2, z1, z2, splC, beqI_t, beqI_f, idx_ok, cells_self, cells_other, Int.toNat_natCast, Nat.mul_one, Nat.zero_add, Nat.add_zero, wrap_i64]
        exact Ends.some rfl
    rw [if_neg c14]
    rw [tupM_none]
    simp (maxSteps := 1000000) (disch := first | omega | (simp (disch := first | omega | (simp only [EvV.len, MonV.len, refC_len, List.length_append, List.length_cons, List.length_nil, List.length_set]; first | done | omega)) only [EvV.len, MonV.len, refC_len, amSide, Int.reduceToNat, Nat.reducePow, Nat.reduceMul]; first | done | omega)) only  [↓amPre, amPost, ↓s_lit', Nat.reduceAdd, Nat.reduceSub, List.replicate, retA, resultsA, resultA, toC, toCL, Nat.reduceEqDiff, (fa29_0 S.p), (fa29_1 S.p), (fa29_2 S.p), (fa29_4 S.p), (fa47_2 S.p), (fa47_3 S.p), (fa47_4 S.p), iaddr_ptr (un40 S.p) (sz3 S.p), part_sc (ag3 S.p), part_all (ag47 S.p) (sz47 S.p), part_at (ag47 S.p) (sz47 S.p), store_last (sz3 S.p), (sz3 S.p), store_last (sz47 S.p), (sz47 S.p), hz, hpV, g0, g1, g2, e0, e1, e2, e4, hq1, hq2, z1, z2, splC, beqI_t, beqI_f, idx_ok, cells_self, cells_other, Int.toNat_natCast, Nat.mul_one, Nat.zero_add, Nat.add_zero, wrap_i64]
    exact Ends.some rfl
end
end Go.AM
/- Monitors' model: the document's Begin, Leave and End. Conditions: none. -/
set_option linter.unusedVariables false
set_option linter.unusedSimpArgs false
set_option maxRecDepth 100000
-- NOTY: ze47, bu47
namespace Go.AM
open Go.Proofs
-- LENS: EvV.len, MonV.len, refC_len
section
variable {P : Program} {T : Tab} {K d : Nat} (S : Sd P T K)
include S
set_option maxHeartbeats 8000000 in
theorem s54a (hd : 1 ≤ d) {n m : Nat} {c : Int} {V : MdV} (I : MdI n m c V) (Wy : MdW V) (hc : 1 ≤ c ∧ c ≤ 60) (e : EvV) {ob : Nat} {o : MonV} (ho : e.o = (ob : Int)) (hx : V.mons[ob]? = some o) {th : Nat} {f : Bool} (ht : e.t = (th : Int)) (hf : V.flags[th]? = some f) (he : 0 ≤ e.e ∧ e.e < 100) (hk : e.k = 4) (hgo : getP ((ob : Int), (th : Int)) V.left = none ∧ getP ((ob : Int), (th : Int)) V.waits = none) (lk : Nat) (h : List AO) :
    ev P T K d 54 [.ag (refC V), .ag e.cells] lk h = some (tupM V (beginV V e o f), h) := by
  obtain ⟨d, rfl⟩ : ∃ k, d = k + 1 := ⟨d - 1, by omega⟩
  refine ev_pure (at54 S.t) (refC_fr _ _) ?_
  unfold i54 Try.f54
  have hto : e.o.toNat = ob := by rw [ho]; rfl
  have hto2 : e.t.toNat = th := by rw [ht]; rfl
  have hob := (List.getElem?_eq_some_iff.1 hx).1
  have hth := (List.getElem?_eq_some_iff.1 hf).1
  have hm8 := I.ok.m
  have hn8 := I.ok.n
  have hmc := I.mc
  have hown := I.own ob o hx
  have h8 : ob < 8 := by omega
  have t8 : th < 8 := by omega
  have e0 := e.c0
  have e1 := e.c1
  have e2 := e.c2
  have e4 := e.c4
  rw [hk] at e0
  rw [ho] at e2
  rw [ht] at e1
  have hz := ze47r S
  have hpV := partV S V
  have g0 := refC_own V h8
  rw [ownR_of hx] at g0
  have g1 := refC_cnt V h8
  rw [cntR_of hx] at g1
  have gf := refC_flg V t8
  rw [flgR_of hf] at gf
  have hpl := refC_pl V h8 t8
  have hq3 : (o.own + 1 == (th : Int) + 1) = decide (o.own = e.t) := by
    rw [ht]
    by_cases q : o.own = (th : Int)
    · rw [decide_eq_true q, q]; exact beq_self_eq_true _
    · rw [decide_eq_false q]; exact beqI_f (by omega)
  unfold beginV
  by_cases a2 : o.own = e.t
  · have z3 := decide_eq_true a2
    by_cases c9 : e.e = 9
    · rw [if_pos c9, if_neg (fun q => q a2)]
      rw [tupM_none]
      simp (maxSteps := 1000000) (disch := first | omega | (simp (disch := first | omega | (simp only [EvV.len, MonV.len, refC_len, List.length_append, List.length_cons, List.length_nil, List.length_set]; first | done | omega)) only [EvV.len, MonV.len, refC_len, amSide, Int.reduceToNat, Nat.reducePow, Nat.reduceMul]; first | done | omega)) only  [↓amPre, amPost, ↓s_lit', Nat.reduceAdd, Nat.reduceSub, List.replicate, retA, resultsA, resultA, toC, toCL, Nat.reduceEqDiff, (ze43 S.p), (bu43 S.p), (fa29_0 S.p), (fa29_1 S.p), (fa29_2 S.p), (fa29_4 S.p), (fa43_0 S.p), (fa43_1 S.p), (fa43_2 S.p), (fa47_3 S.p), (fa47_4 S.p), (fa47_6 S.p), (fa47_7 S.p), iaddr_ptr (un40 S.p) (sz3 S.p), iaddr_ptr (un41 S.p) (sz4 S.p), iaddr_ptr (un44 S.p) (sz43 S.p), iaddr_ptr (un45 S.p) (sz44 S.p), part_sc (ag3 S.p), part_sc (ag4 S.p), part_all (ag43 S.p) (sz43 S.p), part_at (ag43 S.p) (sz43 S.p), part_all (ag47 S.p) (sz47 S.p), part_at (ag47 S.p) (sz47 S.p), store_last (sz3 S.p), (sz3 S.p), store_last (sz4 S.p), (sz4 S.p), store_last (sz43 S.p), (sz43 S.p), store_last (sz47 S.p), (sz47 S.p), hz, hpV, hpl, g0, g1, gf, e0, e1, e2, e4, hq3, z3, splC, splice_one, beqI_t, beqI_f, bneI_t, bneI_f, bne_self_eq_false, idx_ok, cells_self, cells_other, Int.toNat_natCast, Nat.mul_one, Nat.zero_add, Nat.add_zero, wrap_i64]
      exact Ends.some rfl
    rw [if_neg c9]
    by_cases c11 : e.e = 11
    · rw [if_pos c11, if_pos a2]
      rw [tupM_some]
      simp (maxSteps := 1000000) (disch := first | omega | (simp (disch := first | omega | (simp only [EvV.len, MonV.len, refC_len, List.length_append, List.length_cons, List.length_nil, List.length_set]; first | done | omega)) only [EvV.len, MonV.len, refC_len, amSide, Int.reduceToNat, Nat.reducePow, Nat.reduceMul]; first | done | omega)) only  [↓amPre, amPost, ↓s_lit', Nat.reduceAdd, Nat.reduceSub, List.replicate, retA, resultsA, resultA, toC, toCL, Nat.reduceEqDiff, (ze43 S.p), (bu43 S.p), (fa29_0 S.p), (fa29_1 S.p), (fa29_2 S.p), (fa29_4 S.p), (fa43_0 S.p), (fa43_1 S.p), (fa43_2 S.p), (fa47_3 S.p), (fa47_4 S.p), (fa47_6 S.p), (fa47_7 S.p), iaddr_ptr (un40 S.p) (sz3 S.p), iaddr_ptr (un41 S.p) (sz4 S.p), iaddr_ptr (un44 S.p) (sz43 S.p), iaddr_ptr (un45 S.p) (sz44 S.p), part_sc (ag3 S.p), part_sc (ag4 S.p), part_all (ag43 S.p) (sz43 S.p), part_at (ag43 S.p) (sz43 S.p), part_all (ag47 S.p) (sz47 S.p), part_at (ag47 S.p) (sz47 S.p), store_last (sz3 S.p), (sz3 S.p), store_last (sz4 S.p), (sz4 S.p), store_last (sz43 S.p), (sz43 S.p), store_last (sz47 S.p), (sz47 S.p), hz, hpV, hpl, g0, g1, gf, e0, e1, e2, e4, hq3, z3, splC, splice_one, beqI_t, beqI_f, bneI_t, bneI_f, bne_self_eq_false, idx_ok, cells_self, cells_other, Int.toNat_natCast, Nat.mul_one, Nat.zero_add, Nat.add_zero, wrap_i64]
      exact Ends.some rfl
    rw [if_neg c11]
    by_cases c12 : e.e = 12
    · rw [if_pos c12]
      cases f with
      | false =>
        rw [if_neg (fun q => by cases q.2)]
        rw [tupM_none]
        simp (maxSteps := 1000000) (disch := first | omega | (simp (disch := first | omega | (simp only [EvV.len, MonV.len, refC_len, List.length_append, List.length_cons, List.length_nil, List.length_set]; first | done | omega)) only [EvV.len, MonV.len, refC_len, amSide, Int.reduceToNat, Nat.reducePow, Nat.reduceMul]; first | done | omega)) only  [↓amPre, amPost, ↓s_lit', Nat.reduceAdd, Nat.reduceSub, List.replicate, retA, resultsA, resultA, toC, toCL, Nat.reduceEqDiff, (ze43 S.p), (bu43 S.p), (fa29_0 S.p), (fa29_1 S.p), (fa29_2 S.p), (fa29_4 S.p), (fa43_0 S.p), (fa43_1 S.p), (fa43_2 S.p), (fa47_3 S.p), (fa47_4 S.p), (fa47_6 S.p), (fa47_7 S.p), iaddr_ptr (un40 S.p) (sz3 S.p), iaddr_ptr (un41 S.p) (sz4 S.p), iaddr_ptr (un44 S.p) (sz43 S.p), iaddr_ptr (un45 S.p) (sz44 S.p), part_sc (ag3 S.p), part_sc (ag4 S.p), part_all (ag43 S.p) (sz43 S.p), part_at (ag43 S.p) (sz43 S.p), part_all (ag47 S.p) (sz47 S.p), part_at (ag47 S.p) (sz47 S.p), store_last (sz3 S.p), (sz3 S.p), store_last (sz4 S.p), (sz4 S.p), store_last (sz43 S.p), (sz43 S.p), store_last (sz47 S.p), (sz47 S.p), hz, hpV, hpl, g0, g1, gf, e0, e1, e2, e4, hq3, z3, splC, splice_one, beqI_t, beqI_f, bneI_t, bneI_f, bne_self_eq_false, idx_ok, cells_self, cells_other, Int.toNat_natCast, Nat.mul_one, Nat.zero_add, Nat.add_zero, wrap_i64]
        exact Ends.some rfl
      | true =>
        rw [if_pos ⟨a2, rfl⟩, hto2]
        have st := refC_setFlg t8 hth false
        have hpV2 := partV S (V.setF th false)
        rw [tupM_some]
        simp (maxSteps := 1000000) (disch := first | omega | (simp (disch := first | omega | (simp only [EvV.len, MonV.len, refC_len, List.length_append, List.length_cons, List.length_nil, List.length_set]; first | done | omega)) only [EvV.len, MonV.len, refC_len, amSide, Int.reduceToNat, Nat.reducePow, Nat.reduceMul]; first | done | omega)) only  [↓amPre, amPost, ↓s_lit', Nat.reduceAdd, Nat.reduceSub, List.replicate, retA, resultsA, resultA, toC, toCL, Nat.reduceEqDiff, (ze43 S.p), (bu43 S.p), (fa29_0 S.p), (fa29_1 S.p), (fa29_2 S.p), (fa29_4 S.p), (fa43_0 S.p), (fa43_1 S.p), (fa43_2 S.p), (fa47_3 S.p), (fa47_4 S.p), (fa47_6 S.p), (fa47_7 S.p), iaddr_ptr (un40 S.p) (sz3 S.p), iaddr_ptr (un41 S.p) (sz4 S.p), iaddr_ptr (un44 S.p) (sz43 S.p), iaddr_ptr (un45 S.p) (sz44 S.p), part_sc (ag3 S.p), part_sc (ag4 S.p), part_all (ag43 S.p) (sz43 S.p), part_at (ag43 S.p) (sz43 S.p), part_all (ag47 S.p) (sz47 S.p), part_at (ag47 S.p) (sz47 S.p), store_last (sz3 S.p), (sz3 S.p), store_last (sz4 S.p), (sz4 S.p), store_last (sz43 S.p), (sz43 S.p), store_last (sz47 S.p), (sz47 S.p), hz, hpV, hpl, g0, g1, gf, e0, e1, e2, e4, hq3, z3, st, hpV2, splC, splice_one, beqI_t, beqI_f, bneI_t, bneI_f, bne_self_eq_false, idx_ok, cells_self, cells_other, Int.toNat_natCast, Nat.mul_one, Nat.zero_add, Nat.add_zero, wrap_i64]
        exact Ends.some rfl
    rw [if_neg c12]
    by_cases c0 : e.e = 0
    · rw [if_pos c0, if_pos a2, hto]
      have st0 := refC_setWt (V := V) h8 t8 o.cnt
      have hx1 : ({ V with waits := updP ((ob : Int), (th : Int)) o.cnt V.waits } : MdV).mons[ob]? = some o := hx
      have st1 := refC_setOwn h8 hx1 (-1)
      rw [show (-1 : Int) + 1 = 0 from rfl] at st1
      have hx2 : (MdV.setM { V with waits := updP ((ob : Int), (th : Int)) o.cnt V.waits } ob ⟨-1, o.cnt, o.hsh⟩).mons[ob]? = some ⟨-1, o.cnt, o.hsh⟩ := List.getElem?_set_self hob
      have st2 := refC_setCnt h8 hx2 0
      have hVV : (MdV.setM { V with waits := updP ((ob : Int), (th : Int)) o.cnt V.waits } ob ⟨-1, o.cnt, o.hsh⟩).setM ob ⟨-1, 0, o.hsh⟩ = { V.setM ob ⟨-1, 0, o.hsh⟩ with waits := updP ((ob : Int), (th : Int)) o.cnt V.waits } := by simp [MdV.setM]
      simp only at st2
      rw [hVV] at st2
      have hpV2 := partV S { V.setM ob ⟨-1, 0, o.hsh⟩ with waits := updP ((ob : Int), (th : Int)) o.cnt V.waits }
      rw [ho, ht]
      rw [ht] at hq3 z3
      rw [tupM_some]
      simp (maxSteps := 1000000) (disch := first | omega | (simp (disch := first | omega | (simp only [EvV.len, MonV.len, refC_len, List.length_append, List.length_cons, List.length_nil, List.length_set]; first | done | omega)) only [EvV.len, MonV.len, refC_len, amSide, Int.reduceToNat, Nat.reducePow, Nat.reduceMul]; first | done | omega)) only  [↓amPre, amPost, ↓s_lit', Nat.reduceAdd, Nat.reduceSub, List.replicate, retA, resultsA, resultA, toC, toCL, Nat.reduceEqDiff, (ze43 S.p), (bu43 S.p), (fa29_0 S.p), (fa29_1 S.p), (fa29_2 S.p), (fa29_4 S.p), (fa43_0 S.p), (fa43_1 S.p), (fa43_2 S.p), (fa47_3 S.p), (fa47_4 S.p), (fa47_6 S.p), (fa47_7 S.p), iaddr_ptr (un40 S.p) (sz3 S.p), iaddr_ptr (un41 S.p) (sz4 S.p), iaddr_ptr (un44 S.p) (sz43 S.p), iaddr_ptr (un45 S.p) (sz44 S.p), part_sc (ag3 S.p), part_sc (ag4 S.p), part_all (ag43 S.p) (sz43 S.p), part_at (ag43 S.p) (sz43 S.p), part_all (ag47 S.p) (sz47 S.p), part_at (ag47 S.p) (sz47 S.p), store_last (sz3 S.p), (sz3 S.p), store_last (sz4 S.p), (sz4 S.p), store_last (sz43 S.p), (sz43 S.p), store_last (sz47 S.p), (sz47 S.p), hz, hpV, hpl, g0, g1, gf, e0, e1, e2, e4, hq3, z3, st0, st1, st2, hpV2, splC, splice_one, beqI_t, beqI_f, bneI_t, bneI_f, bne_self_eq_false, idx_ok, cells_self, cells_other, Int.toNat_natCast, Nat.mul_one, Nat.zero_add, Nat.add_zero, wrap_i64]
      exact Ends.some rfl
    rw [if_neg c0]
    rw [tupM_none]
    simp (maxSteps := 1000000) (disch := first | omega | (simp (disch := first | omega | (simp only [EvV.len, MonV.len, refC_len, List.length_append, List.length_cons, List.length_nil, List.length_set]; first | done | omega)) only [EvV.len, MonV.len, refC_len, amSide, Int.reduceToNat, Nat.reducePow, Nat.reduceMul]; first | done | omega)) only  [↓amPre, amPost, ↓s_lit', Nat.reduceAdd, Nat.reduceSub, List.replicate, retA, resultsA, resultA, toC, toCL, Nat.reduceEqDiff, (ze43 S.p), (bu43 S.p), (fa29_0 S.p), (fa29_1 S.p), (fa29_2 S.p), (fa29_4 S.p), (fa43_0 S.p), (fa43_1 S.p), (fa43_2 S.p), (fa47_3 S.p), (fa47_4 S.p), (fa47_6 S.p), (fa47_7 S.p), iaddr_ptr (un40 S.p) (sz3 S.p), iaddr_ptr (un41 S.p) (sz4 S.p), iaddr_ptr (un44 S.p) (sz43 S.p), iaddr_ptr (un45 S.p) (sz44 S.p), part_sc (ag3 S.p), part_sc (ag4 S.p), part_all (ag43 S.p) (sz43 S.p), part_at (ag43 S.p) (sz43 S.p), part_all (ag47 S.p) (sz47 S.p), part_at (ag47 S.p) (sz47 S.p), store_last (sz3 S.p), (sz3 S.p), store_last (sz4 S.p), (sz4 S.p), store_last (sz43 S.p), (sz43 S.p), store_last (sz47 S.p), (sz47 S.p), hz, hpV, hpl, g0, g1, gf, e0, e1, e2, e4, hq3, z3, splC, splice_one, beqI_t, beqI_f, bneI_t, bneI_f, bne_self_eq_false, idx_ok, cells_self, cells_other, Int.toNat_natCast, Nat.mul_one, Nat.zero_add, Nat.add_zero, wrap_i64]
    exact Ends.some rfl
  · have z3 := decide_eq_false a2
    by_cases c9 : e.e = 9
    · rw [if_pos c9, if_pos a2]
      rw [tupM_some]
      simp (maxSteps := 1000000) (disch := first | omega | (simp (disch := first | omega | (simp only [EvV.len, MonV.len, refC_len, List.length_append, List.length_cons, List.length_nil, List.length_set]; first | done | omega)) only [EvV.len, MonV.len, refC_len, amSide, Int.reduceToNat, Nat.reducePow, Nat.reduceMul]; first | done | omega)) only  [↓amPre, amPost, ↓s_lit', Nat.reduceAdd, Nat.reduceSub, List.replicate, retA, resultsA, resultA, toC, toCL, Nat.reduceEqDiff, (ze43 S.p), (bu43 S.p), (fa29_0 S.p), (fa29_1 S.p), (fa29_2 S.p), (fa29_4 S.p), (fa43_0 S.p), (fa43_1 S.p), (fa43_2 S.p), (fa47_3 S.p), (fa47_4 S.p), (fa47_6 S.p), (fa47_7 S.p), iaddr_ptr (un40 S.p) (sz3 S.p), iaddr_ptr (un41 S.p) (sz4 S.p), iaddr_ptr (un44 S.p) (sz43 S.p), iaddr_ptr (un45 S.p) (sz44 S.p), part_sc (ag3 S.p), part_sc (ag4 S.p), part_all (ag43 S.p) (sz43 S.p), part_at (ag43 S.p) (sz43 S.p), part_all (ag47 S.p) (sz47 S.p), part_at (ag47 S.p) (sz47 S.p), store_last (sz3 S.p), (sz3 S.p), store_last (sz4 S.p), (sz4 S.p), store_last (sz43 S.p), (sz43 S.p), store_last (sz47 S.p), (sz47 S.p), hz, hpV, hpl, g0, g1, gf, e0, e1, e2, e4, hq3, z3, splC, splice_one, beqI_t, beqI_f, bneI_t, bneI_f, bne_self_eq_false, idx_ok, cells_self, cells_other, Int.toNat_natCast, Nat.mul_one, Nat.zero_add, Nat.add_zero, wrap_i64]
      exact Ends.some rfl
    rw [if_neg c9]
    by_cases c11 : e.e = 11
    · rw [if_pos c11, if_neg a2]
      rw [tupM_none]
      simp (maxSteps := 1000000) (disch := first | omega | (simp (disch := first | omega | (simp only [EvV.len, MonV.len, refC_len, List.length_append, List.length_cons, List.length_nil, List.length_set]; first | done | omega)) only [EvV.len, MonV.len, refC_len, amSide, Int.reduceToNat, Nat.reducePow, Nat.reduceMul]; first | done | omega)) only  [↓amPre, amPost, ↓s_lit', Nat.reduceAdd, Nat.reduceSub, List.replicate, retA, resultsA, resultA, toC, toCL, Nat.reduceEqDiff, (ze43 S.p), (bu43 S.p), (fa29_0 S.p), (fa29_1 S.p), (fa29_2 S.p), (fa29_4 S.p), (fa43_0 S.p), (fa43_1 S.p), (fa43_2 S.p), (fa47_3 S.p), (fa47_4 S.p), (fa47_6 S.p), (fa47_7 S.p), iaddr_ptr (un40 S.p) (sz3 S.p), iaddr_ptr (un41 S.p) (sz4 S.p), iaddr_ptr (un44 S.p) (sz43 S.p), iaddr_ptr (un45 S.p) (sz44 S.p), part_sc (ag3 S.p), part_sc (ag4 S.p), part_all (ag43 S.p) (sz43 S.p), part_at (ag43 S.p) (sz43 S.p), part_all (ag47 S.p) (sz47 S.p), part_at (ag47 S.p) (sz47 S.p), store_last (sz3 S.p), (sz3 S.p), store_last (sz4 S.p), (sz4 S.p), store_last (sz43 S.p), (sz43 S.p), store_last (sz47 S.p), (sz47 S.p), hz, hpV, hpl, g0, g1, gf, e0, e1, e2, e4, hq3, z3, splC, splice_one, beqI_t, beqI_f, bneI_t, bneI_f, bne_self_eq_false, idx_ok, cells_self, cells_other, Int.toNat_natCast, Nat.mul_one, Nat.zero_add, Nat.add_zero, wrap_i64]
      exact Ends.some rfl
    rw [if_neg c11]
    by_cases c12 : e.e = 12
    · rw [if_pos c12, if_neg (fun q => a2 q.1)]
      rw [tupM_none]
      simp (maxSteps := 1000000) (disch := first | omega | (simp (disch := first | omega | (simp only [EvV.len, MonV.len, refC_len, List.length_append, List.length_cons, List.length_nil, List.length_set]; first | done | omega)) only [EvV.len, MonV.len, refC_len, amSide, Int.reduceToNat, Nat.reducePow, Nat.reduceMul]; first | done | omega)) only  [↓amPre, amPost, ↓s_lit', Nat.reduceAdd, Nat.reduceSub, List.replicate, retA, resultsA, resultA, toC, toCL, Nat.reduceEqDiff, (ze43 S.p), (bu43 S.p), (fa29_0 S.p), (fa29_1 S.p), (fa29_2 S.p), (fa29_4 S.p), (fa43_0 S.p), (fa43_1 S.p), (fa43_2 S.p), (fa47_3 S.p), (fa47_4 S.p), (fa47_6 S.p), (fa47_7 S.p), iaddr_ptr (un40 S.p) (sz3 S.p), iaddr_ptr (un41 S.p) (sz4 S.p), iaddr_ptr (un44 S.p) (sz43 S.p), iaddr_ptr (un45 S.p) (sz44 S.p), part_sc (ag3 S.p), part_sc (ag4 S.p), part_all (ag43 S.p) (sz43 S.p), part_at (ag43 S.p) (sz43 S.p), part_all (ag47 S.p) (sz47 S.p), part_at (ag47 S.p) (sz47 S.p), store_last (sz3 S.p), (sz3 S.p), store_last (sz4 S.p), (sz4 S.p), store_last (sz43 S.p), (sz43 S.p), store_last (sz47 S.p), (sz47 S.p), hz, hpV, hpl, g0, g1, gf, e0, e1, e2, e4, hq3, z3, splC, splice_one, beqI_t, beqI_f, bneI_t, bneI_f, bne_self_eq_false, idx_ok, cells_self, cells_other, Int.toNat_natCast, Nat.mul_one, Nat.zero_add, Nat.add_zero, wrap_i64]
      exact Ends.some rfl
    rw [if_neg c12]
    by_cases c0 : e.e = 0
    · rw [if_pos c0, if_neg a2]
      rw [tupM_none]
      simp (maxSteps := 1000000) (disch := first | omega | (simp (disch := first | omega | (simp only [EvV.len, MonV.len, refC_len, List.length_append, List.length_cons, List.length_nil, List.length_set]; first | done | omega)) only [EvV.len, MonV.len, refC_len, amSide, Int.reduceToNat, Nat.reducePow, Nat.reduceMul]; first | done | omega)) only  [↓amPre, amPost, ↓s_lit', Nat.reduceAdd, Nat.reduceSub, List.replicate, retA, resultsA, resultA, toC, toCL, Nat.reduceEqDiff, (ze43 S.p), (bu43 S.p), (fa29_0 S.p), (fa29_1 S.p), (fa29_2 S.p), (fa29_4 S.p), (fa43_0 S.p), (fa43_1 S.p), (fa43_2 S.p), (fa47_3 S.p), (fa47_4 S.p), (fa47_6 S.p), (fa47_7 S.p), iaddr_ptr (un40 S.p) (sz3 S.p), iaddr_ptr (un41 S.p) (sz4 S.p), iaddr_ptr (un44 S.p) (sz43 S.p), iaddr_ptr (un45 S.p) (sz44 S.p), part_sc (ag3 S.p), part_sc (ag4 S.p), part_all (ag43 S.p) (sz43 S.p), part_at (ag43 S.p) (sz43 S.p), part_all (ag47 S.p) (sz47 S.p), part_at (ag47 S.p) (sz47 S.p), store_last (sz3 S.p), (sz3 S.p), store_last (sz4 S.p), (sz4 S.p), store_last (sz43 S.p), (sz43 S.p), store_last (sz47 S.p), (sz47 S.p), hz, hpV, hpl, g0, g1, gf, e0, e1, e2, e4, hq3, z3, splC, splice_one, beqI_t, beqI_f, bneI_t, bneI_f, bne_self_eq_false, idx_ok, cells_self, cells_other, Int.toNat_natCast, Nat.mul_one, Nat.zero_add, Nat.add_zero, wrap_i64]
      exact Ends.some rfl
    rw [if_neg c0]
    rw [tupM_none]
    simp (maxSteps := 1000000) (disch := first | omega | (simp (disch := first | omega | (simp only [EvV.len, MonV.len, refC_len, List.length_append, List.length_cons, List.length_nil, List.length_set]; first | done | omega)) only [EvV.len, MonV.len, refC_len, amSide, Int.reduceToNat, Nat.reducePow, Nat.reduceMul]; first | done | omega)) only  [↓amPre, amPost, ↓s_lit', Nat.reduceAdd, Nat.reduceSub, List.replicate, retA, resultsA, resultA, toC, toCL, Nat.reduceEqDiff, (ze43 S.p), (bu43 S.p), (fa29_0 S.p), (fa29_1 S.p), (fa29_2 S.p), (fa29_4 S.p), (fa43_0 S.p), (fa43_1 S.p), (fa43_2 S.p), (fa47_3 S.p), (fa47_4 S.p), (fa47_6 S.p), (fa47_7 S.p), iaddr_ptr (un40 S.p) (sz3 S.p), iaddr_ptr (un41 S.p) (sz4 S.p), iaddr_ptr (un44 S.p) (sz43 S.p), iaddr_ptr (un45 S.p) (sz44 S.p), part_sc (ag3 S.p), part_sc (ag4 S.p), part_all (ag43 S.p) (sz43 S.p), part_at (ag43 S.p) (sz43 S.p), part_all (ag47 S.p) (sz47 S.p), part_at (ag47 S.p) (sz47 S.p), store_last (sz3 S.p), (sz3 S.p), store_last (sz4 S.p), (sz4 S.p), store_last (sz43 S.p), (sz43 S.p), store_last (sz47 S.p), (sz47 S.p), hz, hpV, hpl, g0, g1, gf, e0, e1, e2, e4, hq3, z3, splC, splice_one, beqI_t, beqI_f, bneI_t, bneI_f, bne_self_eq_false, idx_ok, cells_self, cells_other, Int.toNat_natCast, Nat.mul_one, Nat.zero_add, Nat.add_zero, wrap_i64]
    exact Ends.some rfl
set_option maxHeartbeats 8000000 in
theorem s54b (hd : 1 ≤ d) {n m : Nat} {c : Int} {V : MdV} (I : MdI n m c V) (Wy : MdW V) (hc : 1 ≤ c ∧ c ≤ 60) (e : EvV) {ob : Nat} {o : MonV} (ho : e.o = (ob : Int)) (hx : V.mons[ob]? = some o) {th : Nat} {f : Bool} (ht : e.t = (th : Int)) (hf : V.flags[th]? = some f) (he : 0 ≤ e.e ∧ e.e < 100) (hk : e.k = 5) (lk : Nat) (h : List AO) :
    ev P T K d 54 [.ag (refC V), .ag e.cells] lk h = some (tupM V (if e.e = 13 ∨ e.e = 12 ∧ f = true then leaveV V (e.o, e.t) e.e else none), h) := by
  obtain ⟨d, rfl⟩ : ∃ k, d = k + 1 := ⟨d - 1, by omega⟩
  refine ev_pure (at54 S.t) (refC_fr _ _) ?_
  unfold i54 Try.f54
  have hto : e.o.toNat = ob := by rw [ho]; rfl
  have hto2 : e.t.toNat = th := by rw [ht]; rfl
  have hob := (List.getElem?_eq_some_iff.1 hx).1
  have hth := (List.getElem?_eq_some_iff.1 hf).1
  have hm8 := I.ok.m
  have hn8 := I.ok.n
  have hmc := I.mc
  have hown := I.own ob o hx
  have h8 : ob < 8 := by omega
  have t8 : th < 8 := by omega
  have e0 := e.c0
  have e1 := e.c1
  have e2 := e.c2
  have e4 := e.c4
  rw [hk] at e0
  rw [ho] at e2
  rw [ht] at e1
  have hz := ze47r S
  have hpV := partV S V
  have g0 := refC_own V h8
  rw [ownR_of hx] at g0
  have g1 := refC_cnt V h8
  rw [cntR_of hx] at g1
  have gf := refC_flg V t8
  rw [flgR_of hf] at gf
  have hpl := refC_pl V h8 t8
  have hq3 : (o.own + 1 == (th : Int) + 1) = decide (o.own = e.t) := by
    rw [ht]
    by_cases q : o.own = (th : Int)
    · rw [decide_eq_true q, q]; exact beq_self_eq_true _
    · rw [decide_eq_false q]; exact beqI_f (by omega)
  cases g : getP ((ob : Int), (th : Int)) V.waits with
  | none =>
    have hlv : leaveV V (e.o, e.t) e.e = none := by unfold leaveV; rw [ho, ht, g]
    rw [hlv]
    have hw : wtR V ob th = 0 := by unfold wtR; rw [g]
    rw [hw] at hpl
    have hif : (if e.e = 13 ∨ e.e = 12 ∧ f = true then (none : Option MdV) else none) = none := by split <;> rfl
    rw [hif]
    by_cases c13 : e.e = 13
    · skip
      rw [tupM_none]
      simp (maxSteps := 1000000) (disch := first | omega | (simp (disch := first | omega | (simp only [EvV.len, MonV.len, refC_len, List.length_append, List.length_cons, List.length_nil, List.length_set]; first | done | omega)) only [EvV.len, MonV.len, refC_len, amSide, Int.reduceToNat, Nat.reducePow, Nat.reduceMul]; first | done | omega)) only  [↓amPre, amPost, ↓s_lit', Nat.reduceAdd, Nat.reduceSub, List.replicate, retA, resultsA, resultA, toC, toCL, Nat.reduceEqDiff, (ze43 S.p), (bu43 S.p), (fa29_0 S.p), (fa29_1 S.p), (fa29_2 S.p), (fa29_4 S.p), (fa43_0 S.p), (fa43_1 S.p), (fa43_2 S.p), (fa47_3 S.p), (fa47_4 S.p), (fa47_6 S.p), (fa47_7 S.p), iaddr_ptr (un40 S.p) (sz3 S.p), iaddr_ptr (un41 S.p) (sz4 S.p), iaddr_ptr (un44 S.p) (sz43 S.p), iaddr_ptr (un45 S.p) (sz44 S.p), part_sc (ag3 S.p), part_sc (ag4 S.p), part_all (ag43 S.p) (sz43 S.p), part_at (ag43 S.p) (sz43 S.p), part_all (ag47 S.p) (sz47 S.p), part_at (ag47 S.p) (sz47 S.p), store_last (sz3 S.p), (sz3 S.p), store_last (sz4 S.p), (sz4 S.p), store_last (sz43 S.p), (sz43 S.p), store_last (sz47 S.p), (sz47 S.p), hz, hpV, hpl, g0, g1, gf, e0, e1, e2, e4, hq3, splC, splice_one, beqI_t, beqI_f, bneI_t, bneI_f, bne_self_eq_false, idx_ok, cells_self, cells_other, Int.toNat_natCast, Nat.mul_one, Nat.zero_add, Nat.add_zero, wrap_i64]
      exact Ends.some rfl
    by_cases c12 : e.e = 12
    · skip
      rw [tupM_none]
      simp (maxSteps := 1000000) (disch := first | omega | (simp (disch := first | omega | (simp only [EvV.len, MonV.len, refC_len, List.length_append, List.length_cons, List.length_nil, List.length_set]; first | done | omega)) only [EvV.len, MonV.len, refC_len, amSide, Int.reduceToNat, Nat.reducePow, Nat.reduceMul]; first | done | omega)) only  [↓amPre, amPost, ↓s_lit', Nat.reduceAdd, Nat.reduceSub, List.replicate, retA, resultsA, resultA, toC, toCL, Nat.reduceEqDiff, (ze43 S.p), (bu43 S.p), (fa29_0 S.p), (fa29_1 S.p), (fa29_2 S.p), (fa29_4 S.p), (fa43_0 S.p), (fa43_1 S.p), (fa43_2 S.p), (fa47_3 S.p), (fa47_4 S.p), (fa47_6 S.p), (fa47_7 S.p), iaddr_ptr (un40 S.p) (sz3 S.p), iaddr_ptr (un41 S.p) (sz4 S.p), iaddr_ptr (un44 S.p) (sz43 S.p), iaddr_ptr (un45 S.p) (sz44 S.p), part_sc (ag3 S.p), part_sc (ag4 S.p), part_all (ag43 S.p) (sz43 S.p), part_at (ag43 S.p) (sz43 S.p), part_all (ag47 S.p) (sz47 S.p), part_at (ag47 S.p) (sz47 S.p), store_last (sz3 S.p), (sz3 S.p), store_last (sz4 S.p), (sz4 S.p), store_last (sz43 S.p), (sz43 S.p), store_last (sz47 S.p), (sz47 S.p), hz, hpV, hpl, g0, g1, gf, e0, e1, e2, e4, hq3, splC, splice_one, beqI_t, beqI_f, bneI_t, bneI_f, bne_self_eq_false, idx_ok, cells_self, cells_other, Int.toNat_natCast, Nat.mul_one, Nat.zero_add, Nat.add_zero, wrap_i64]
      exact Ends.some rfl
    rw [tupM_none]
    simp (maxSteps := 1000000) (disch := first | omega | (simp (disch := first | omega | (simp only [EvV.len, MonV.len, refC_len, List.length_append, List.length_cons, List.length_nil, List.length_set]; first | done | omega)) only [EvV.len, MonV.len, refC_len, amSide, Int.reduceToNat, Nat.reducePow, Nat.reduceMul]; first | done | omega)) only  [↓amPre, amPost, ↓s_lit', Nat.reduceAdd, Nat.reduceSub, List.replicate, retA, resultsA, resultA, toC, toCL, Nat.reduceEqDiff, (ze43 S.p), (bu43 S.p), (fa29_0 S.p), (fa29_1 S.p), (fa29_2 S.p), (fa29_4 S.p), (fa43_0 S.p), (fa43_1 S.p), (fa43_2 S.p), (fa47_3 S.p), (fa47_4 S.p), (fa47_6 S.p), (fa47_7 S.p), iaddr_ptr (un40 S.p) (sz3 S.p), iaddr_ptr (un41 S.p) (sz4 S.p), iaddr_ptr (un44 S.p) (sz43 S.p), iaddr_ptr (un45 S.p) (sz44 S.p), part_sc (ag3 S.p), part_sc (ag4 S.p), part_all (ag43 S.p) (sz43 S.p), part_at (ag43 S.p) (sz43 S.p), part_all (ag47 S.p) (sz47 S.p), part_at (ag47 S.p) (sz47 S.p), store_last (sz3 S.p), (sz3 S.p), store_last (sz4 S.p), (sz4 S.p), store_last (sz43 S.p), (sz43 S.p), store_last (sz47 S.p), (sz47 S.p), hz, hpV, hpl, g0, g1, gf, e0, e1, e2, e4, hq3, splC, splice_one, beqI_t, beqI_f, bneI_t, bneI_f, bne_self_eq_false, idx_ok, cells_self, cells_other, Int.toNat_natCast, Nat.mul_one, Nat.zero_add, Nat.add_zero, wrap_i64]
    exact Ends.some rfl
  | some w =>
    have hlv : leaveV V (e.o, e.t) e.e = some { V with waits := delP ((ob : Int), (th : Int)) V.waits, left := updP ((ob : Int), (th : Int)) ⟨w, e.e⟩ V.left } := by unfold leaveV; rw [ho, ht, g]
    rw [hlv]
    have hw : wtR V ob th = w := by unfold wtR; rw [g]
    rw [hw] at hpl
    have hw1 := (I.wc _ (getP_mem g)).1
    simp only at hw1
    have st := refC_leave h8 t8 I.ok.wd w e.e
    have hpV2 := partV S { V with waits := delP ((ob : Int), (th : Int)) V.waits, left := updP ((ob : Int), (th : Int)) ⟨w, e.e⟩ V.left }
    by_cases c13 : e.e = 13
    · rw [if_pos (Or.inl c13)]
      rw [tupM_some]
      simp (maxSteps := 1000000) (disch := first | omega | (simp (disch := first | omega | (simp only [EvV.len, MonV.len, refC_len, List.length_append, List.length_cons, List.length_nil, List.length_set]; first | done | omega)) only [EvV.len, MonV.len, refC_len, amSide, Int.reduceToNat, Nat.reducePow, Nat.reduceMul]; first | done | omega)) only  [↓amPre, amPost, ↓s_lit', Nat.reduceAdd, Nat.reduceSub, List.replicate, retA, resultsA, resultA, toC, toCL, Nat.reduceEqDiff, (ze43 S.p), (bu43 S.p), (fa29_0 S.p), (fa29_1 S.p), (fa29_2 S.p), (fa29_4 S.p), (fa43_0 S.p), (fa43_1 S.p), (fa43_2 S.p), (fa47_3 S.p), (fa47_4 S.p), (fa47_6 S.p), (fa47_7 S.p), iaddr_ptr (un40 S.p) (sz3 S.p), iaddr_ptr (un41 S.p) (sz4 S.p), iaddr_ptr (un44 S.p) (sz43 S.p), iaddr_ptr (un45 S.p) (sz44 S.p), part_sc (ag3 S.p), part_sc (ag4 S.p), part_all (ag43 S.p) (sz43 S.p), part_at (ag43 S.p) (sz43 S.p), part_all (ag47 S.p) (sz47 S.p), part_at (ag47 S.p) (sz47 S.p), store_last (sz3 S.p), (sz3 S.p), store_last (sz4 S.p), (sz4 S.p), store_last (sz43 S.p), (sz43 S.p), store_last (sz47 S.p), (sz47 S.p), hz, hpV, hpl, g0, g1, gf, e0, e1, e2, e4, hq3, st, hpV2, splC, splice_one, beqI_t, beqI_f, bneI_t, bneI_f, bne_self_eq_false, idx_ok, cells_self, cells_other, Int.toNat_natCast, Nat.mul_one, Nat.zero_add, Nat.add_zero, wrap_i64]
      exact Ends.some rfl
    by_cases c12 : e.e = 12
    · skip
      cases f with
      | false =>
        rw [if_neg (fun q => q.elim c13 (fun q => by cases q.2))]
        rw [tupM_none]
        simp (maxSteps := 1000000) (disch := first | omega | (simp (disch := first | omega | (simp only [EvV.len, MonV.len, refC_len, List.length_append, List.length_cons, List.length_nil, List.length_set]; first | done | omega)) only [EvV.len, MonV.len, refC_len, amSide, Int.reduceToNat, Nat.reducePow, Nat.reduceMul]; first | done | omega)) only  [↓amPre, amPost, ↓s_lit', Nat.reduceAdd, Nat.reduceSub, List.replicate, retA, resultsA, resultA, toC, toCL, Nat.reduceEqDiff, (ze43 S.p), (bu43 S.p), (fa29_0 S.p), (fa29_1 S.p), (fa29_2 S.p), (fa29_4 S.p), (fa43_0 S.p), (fa43_1 S.p), (fa43_2 S.p), (fa47_3 S.p), (fa47_4 S.p), (fa47_6 S.p), (fa47_7 S.p), iaddr_ptr (un40 S.p) (sz3 S.p), iaddr_ptr (un41 S.p) (sz4 S.p), iaddr_ptr (un44 S.p) (sz43 S.p), iaddr_ptr (un45 S.p) (sz44 S.p), part_sc (ag3 S.p), part_sc (ag4 S.p), part_all (ag43 S.p) (sz43 S.p), part_at (ag43 S.p) (sz43 S.p), part_all (ag47 S.p) (sz47 S.p), part_at (ag47 S.p) (sz47 S.p), store_last (sz3 S.p), (sz3 S.p), store_last (sz4 S.p), (sz4 S.p), store_last (sz43 S.p), (sz43 S.p), store_last (sz47 S.p), (sz47 S.p), hz, hpV, hpl, g0, g1, gf, e0, e1, e2, e4, hq3, st, hpV2, splC, splice_one, beqI_t, beqI_f, bneI_t, bneI_f, bne_self_eq_false, idx_ok, cells_self, cells_other, Int.toNat_natCast, Nat.mul_one, Nat.zero_add, Nat.add_zero, wrap_i64]
        exact Ends.some rfl
      | true =>
        rw [if_pos (Or.inr ⟨c12, rfl⟩)]
        rw [tupM_some]
        simp (maxSteps := 1000000) (disch := first | omega | (simp (disch := first | omega | (simp only [EvV.len, MonV.len, refC_len, List.length_append, List.length_cons, List.length_nil, List.length_set]; first | done | omega)) only [EvV.len, MonV.len, refC_len, amSide, Int.reduceToNat, Nat.reducePow, Nat.reduceMul]; first | done | omega)) only  [↓amPre, amPost, ↓s_lit', Nat.reduceAdd, Nat.reduceSub, List.replicate, retA, resultsA, resultA, toC, toCL, Nat.reduceEqDiff, (ze43 S.p), (bu43 S.p), (fa29_0 S.p), (fa29_1 S.p), (fa29_2 S.p), (fa29_4 S.p), (fa43_0 S.p), (fa43_1 S.p), (fa43_2 S.p), (fa47_3 S.p), (fa47_4 S.p), (fa47_6 S.p), (fa47_7 S.p), iaddr_ptr (un40 S.p) (sz3 S.p), iaddr_ptr (un41 S.p) (sz4 S.p), iaddr_ptr (un44 S.p) (sz43 S.p), iaddr_ptr (un45 S.p) (sz44 S.p), part_sc (ag3 S.p), part_sc (ag4 S.p), part_all (ag43 S.p) (sz43 S.p), part_at (ag43 S.p) (sz43 S.p), part_all (ag47 S.p) (sz47 S.p), part_at (ag47 S.p) (sz47 S.p), store_last (sz3 S.p), (sz3 S.p), store_last (sz4 S.p), (sz4 S.p), store_last (sz43 S.p), (sz43 S.p), store_last (sz47 S.p), (sz47 S.p), hz, hpV, hpl, g0, g1, gf, e0, e1, e2, e4, hq3, st, hpV2, splC, splice_one, beqI_t, beqI_f, bneI_t, bneI_f, bne_self_eq_false, idx_ok, cells_self, cells_other, Int.toNat_natCast, Nat.mul_one, Nat.zero_add, Nat.add_zero, wrap_i64]
        exact Ends.some rfl
    rw [if_neg (fun q => q.elim c13 (fun q => c12 q.1))]
    rw [tupM_none]
    simp (maxSteps := 1000000) (disch := first | omega | (simp (disch := first | omega | (simp only [EvV.len, MonV.len, refC_len, List.length_append, List.length_cons, List.length_nil, List.length_set]; first | done | omega)) only [EvV.len, MonV.len, refC_len, amSide, Int.reduceToNat, Nat.reducePow, Nat.reduceMul]; first | done | omega)) only  [↓amPre, amPost, ↓s_lit', Nat.reduceAdd, Nat.reduceSub, List.replicate, retA, resultsA, resultA, toC, toCL, Nat.reduceEqDiff, (ze43 S.p), (bu43 S.p), (fa29_0 S.p), (fa29_1 S.p), (fa29_2 S.p), (fa29_4 S.p), (fa43_0 S.p), (fa43_1 S.p), (fa43_2 S.p), (fa47_3 S.p), (fa47_4 S.p), (fa47_6 S.p), (fa47_7 S.p), iaddr_ptr (un40 S.p) (sz3 S.p), iaddr_ptr (un41 S.p) (sz4 S.p), iaddr_ptr (un44 S.p) (sz43 S.p), iaddr_ptr (un45 S.p) (sz44 S.p), part_sc (ag3 S.p), part_sc (ag4 S.p), part_all (ag43 S.p) (sz43 S.p), part_at (ag43 S.p) (sz43 S.p), part_all (ag47 S.p) (sz47 S.p), part_at (ag47 S.p) (sz47 S.p), store_last (sz3 S.p), (sz3 S.p), store_last (sz4 S.p), (sz4 S.p), store_last (sz43 S.p), (sz43 S.p), store_last (sz47 S.p), (sz47 S.p), hz, hpV, hpl, g0, g1, gf, e0, e1, e2, e4, hq3, splC, splice_one, beqI_t, beqI_f, bneI_t, bneI_f, bne_self_eq_false, idx_ok, cells_self, cells_other, Int.toNat_natCast, Nat.mul_one, Nat.zero_add, Nat.add_zero, wrap_i64]
    exact Ends.some rfl
set_option maxHeartbeats 8000000 in
theorem s54c (hd : 1 ≤ d) {n m : Nat} {c : Int} {V : MdV} (I : MdI n m c V) (Wy : MdW V) (hc : 1 ≤ c ∧ c ≤ 60) (e : EvV) {ob : Nat} {o : MonV} (ho : e.o = (ob : Int)) (hx : V.mons[ob]? = some o) {th : Nat} {f : Bool} (ht : e.t = (th : Int)) (hf : V.flags[th]? = some f) (he : 0 ≤ e.e ∧ e.e < 100) (hk : e.k = 6) (lk : Nat) (h : List AO) :
    ev P T K d 54 [.ag (refC V), .ag e.cells] lk h = some (tupM V (endV V e o), h) := by
  obtain ⟨d, rfl⟩ : ∃ k, d = k + 1 := ⟨d - 1, by omega⟩
  refine ev_pure (at54 S.t) (refC_fr _ _) ?_
  unfold i54 Try.f54
  have hto : e.o.toNat = ob := by rw [ho]; rfl
  have hto2 : e.t.toNat = th := by rw [ht]; rfl
  have hob := (List.getElem?_eq_some_iff.1 hx).1
  have hth := (List.getElem?_eq_some_iff.1 hf).1
  have hm8 := I.ok.m
  have hn8 := I.ok.n
  have hmc := I.mc
  have hown := I.own ob o hx
  have h8 : ob < 8 := by omega
  have t8 : th < 8 := by omega
  have e0 := e.c0
  have e1 := e.c1
  have e2 := e.c2
  have e4 := e.c4
  rw [hk] at e0
  rw [ho] at e2
  rw [ht] at e1
  have hz := ze47r S
  have hpV := partV S V
  have g0 := refC_own V h8
  rw [ownR_of hx] at g0
  have g1 := refC_cnt V h8
  rw [cntR_of hx] at g1
  have gf := refC_flg V t8
  rw [flgR_of hf] at gf
  have hpl := refC_pl V h8 t8
  have hq3 : (o.own + 1 == (th : Int) + 1) = decide (o.own = e.t) := by
    rw [ht]
    by_cases q : o.own = (th : Int)
    · rw [decide_eq_true q, q]; exact beq_self_eq_true _
    · rw [decide_eq_false q]; exact beqI_f (by omega)
  have hq1 : (o.own + 1 != 0) = decide (o.own ≠ -1) := by
    by_cases q : o.own = -1
    · rw [decide_eq_false (fun r => r q), q]; rfl
    · rw [decide_eq_true q]; exact bneI_t (by omega)
  cases g : getP ((ob : Int), (th : Int)) V.left with
  | none =>
    have hlv : endV V e o = none := by unfold endV; rw [ho, ht, g]
    rw [hlv]
    have hw : lcR V ob th = 0 := by unfold lcR; rw [g]
    rw [hw] at hpl
    by_cases a1 : o.own = -1
    · have z1 := decide_eq_false (fun r : o.own ≠ -1 => r a1)
      by_cases c0 : e.e = 0
      · skip
        rw [tupM_none]
        simp (maxSteps := 1000000) (disch := first | omega | (simp (disch := first | omega | (simp only [EvV.len, MonV.len, refC_len, List.length_append, List.length_cons, List.length_nil, List.length_set]; first | done | omega)) only [EvV.len, MonV.len, refC_len, amSide, Int.reduceToNat, Nat.reducePow, Nat.reduceMul]; first | done | omega)) only  [↓amPre, amPost, ↓s_lit', Nat.reduceAdd, Nat.reduceSub, List.replicate, retA, resultsA, resultA, toC, toCL, Nat.reduceEqDiff, (ze43 S.p), (bu43 S.p), (fa29_0 S.p), (fa29_1 S.p), (fa29_2 S.p), (fa29_4 S.p), (fa43_0 S.p), (fa43_1 S.p), (fa43_2 S.p), (fa47_3 S.p), (fa47_4 S.p), (fa47_6 S.p), (fa47_7 S.p), iaddr_ptr (un40 S.p) (sz3 S.p), iaddr_ptr (un41 S.p) (sz4 S.p), iaddr_ptr (un44 S.p) (sz43 S.p), iaddr_ptr (un45 S.p) (sz44 S.p), part_sc (ag3 S.p), part_sc (ag4 S.p), part_all (ag43 S.p) (sz43 S.p), part_at (ag43 S.p) (sz43 S.p), part_all (ag47 S.p) (sz47 S.p), part_at (ag47 S.p) (sz47 S.p), store_last (sz3 S.p), (sz3 S.p), store_last (sz4 S.p), (sz4 S.p), store_last (sz43 S.p), (sz43 S.p), store_last (sz47 S.p), (sz47 S.p), hz, hpV, hpl, g0, g1, gf, e0, e1, e2, e4, hq3, hq1, z1, splC, splice_one, beqI_t, beqI_f, bneI_t, bneI_f, bne_self_eq_false, idx_ok, cells_self, cells_other, Int.toNat_natCast, Nat.mul_one, Nat.zero_add, Nat.add_zero, wrap_i64]
        exact Ends.some rfl
      by_cases c13 : e.e = 13
      · skip
        rw [tupM_none]
        simp (maxSteps := 1000000) (disch := first | omega | (simp (disch := first | omega | (simp only [EvV.len, MonV.len, refC_len, List.length_append, List.length_cons, List.length_nil, List.length_set]; first | done | omega)) only [EvV.len, MonV.len, refC_len, amSide, Int.reduceToNat, Nat.reducePow, Nat.reduceMul]; first | done | omega)) only  [↓amPre, amPost, ↓s_lit', Nat.reduceAdd, Nat.reduceSub, List.replicate, retA, resultsA, resultA, toC, toCL, Nat.reduceEqDiff, (ze43 S.p), (bu43 S.p), (fa29_0 S.p), (fa29_1 S.p), (fa29_2 S.p), (fa29_4 S.p), (fa43_0 S.p), (fa43_1 S.p), (fa43_2 S.p), (fa47_3 S.p), (fa47_4 S.p), (fa47_6 S.p), (fa47_7 S.p), iaddr_ptr (un40 S.p) (sz3 S.p), iaddr_ptr (un41 S.p) (sz4 S.p), iaddr_ptr (un44 S.p) (sz43 S.p), iaddr_ptr (un45 S.p) (sz44 S.p), part_sc (ag3 S.p), part_sc (ag4 S.p), part_all (ag43 S.p) (sz43 S.p), part_at (ag43 S.p) (sz43 S.p), part_all (ag47 S.p) (sz47 S.p), part_at (ag47 S.p) (sz47 S.p), store_last (sz3 S.p), (sz3 S.p), store_last (sz4 S.p), (sz4 S.p), store_last (sz43 S.p), (sz43 S.p), store_last (sz47 S.p), (sz47 S.p), hz, hpV, hpl, g0, g1, gf, e0, e1, e2, e4, hq3, hq1, z1, splC, splice_one, beqI_t, beqI_f, bneI_t, bneI_f, bne_self_eq_false, idx_ok, cells_self, cells_other, Int.toNat_natCast, Nat.mul_one, Nat.zero_add, Nat.add_zero, wrap_i64]
        exact Ends.some rfl
      by_cases c12 : e.e = 12
      · skip
        rw [tupM_none]
        simp (maxSteps := 1000000) (disch := first | omega | (simp (disch := first | omega | (simp only [EvV.len, MonV.len, refC_len, List.length_append, List.length_cons, List.length_nil, List.length_set]; first | done | omega)) only [EvV.len, MonV.len, refC_len, amSide, Int.reduceToNat, Nat.reducePow, Nat.reduceMul]; first | done | omega)) only  [↓amPre, amPost, ↓s_lit', Nat.reduceAdd, Nat.reduceSub, List.replicate, retA, resultsA, resultA, toC, toCL, Nat.reduceEqDiff, (ze43 S.p), (bu43 S.p), (fa29_0 S.p), (fa29_1 S.p), (fa29_2 S.p), (fa29_4 S.p), (fa43_0 S.p), (fa43_1 S.p), (fa43_2 S.p), (fa47_3 S.p), (fa47_4 S.p), (fa47_6 S.p), (fa47_7 S.p), iaddr_ptr (un40 S.p) (sz3 S.p), iaddr_ptr (un41 S.p) (sz4 S.p), iaddr_ptr (un44 S.p) (sz43 S.p), iaddr_ptr (un45 S.p) (sz44 S.p), part_sc (ag3 S.p), part_sc (ag4 S.p), part_all (ag43 S.p) (sz43 S.p), part_at (ag43 S.p) (sz43 S.p), part_all (ag47 S.p) (sz47 S.p), part_at (ag47 S.p) (sz47 S.p), store_last (sz3 S.p), (sz3 S.p), store_last (sz4 S.p), (sz4 S.p), store_last (sz43 S.p), (sz43 S.p), store_last (sz47 S.p), (sz47 S.p), hz, hpV, hpl, g0, g1, gf, e0, e1, e2, e4, hq3, hq1, z1, splC, splice_one, beqI_t, beqI_f, bneI_t, bneI_f, bne_self_eq_false, idx_ok, cells_self, cells_other, Int.toNat_natCast, Nat.mul_one, Nat.zero_add, Nat.add_zero, wrap_i64]
        exact Ends.some rfl
      rw [tupM_none]
      simp (maxSteps := 1000000) (disch := first | omega | (simp (disch := first | omega | (simp only [EvV.len, MonV.len, refC_len, List.length_append, List.length_cons, List.length_nil, List.length_set]; first | done | omega)) only [EvV.len, MonV.len, refC_len, amSide, Int.reduceToNat, Nat.reducePow, Nat.reduceMul]; first | done | omega)) only  [↓amPre, amPost, ↓s_lit', Nat.reduceAdd, Nat.reduceSub, List.replicate, retA, resultsA, resultA, toC, toCL, Nat.reduceEqDiff, (ze43 S.p), (bu43 S.p), (fa29_0 S.p), (fa29_1 S.p), (fa29_2 S.p), (fa29_4 S.p), (fa43_0 S.p), (fa43_1 S.p), (fa43_2 S.p), (fa47_3 S.p), (fa47_4 S.p), (fa47_6 S.p), (fa47_7 S.p), iaddr_ptr (un40 S.p) (sz3 S.p), iaddr_ptr (un41 S.p) (sz4 S.p), iaddr_ptr (un44 S.p) (sz43 S.p), iaddr_ptr (un45 S.p) (sz44 S.p), part_sc (ag3 S.p), part_sc (ag4 S.p), part_all (ag43 S.p) (sz43 S.p), part_at (ag43 S.p) (sz43 S.p), part_all (ag47 S.p) (sz47 S.p), part_at (ag47 S.p) (sz47 S.p), store_last (sz3 S.p), (sz3 S.p), store_last (sz4 S.p), (sz4 S.p), store_last (sz43 S.p), (sz43 S.p), store_last (sz47 S.p), (sz47 S.p), hz, hpV, hpl, g0, g1, gf, e0, e1, e2, e4, hq3, hq1, z1, splC, splice_one, beqI_t, beqI_f, bneI_t, bneI_f, bne_self_eq_false, idx_ok, cells_self, cells_other, Int.toNat_natCast, Nat.mul_one, Nat.zero_add, Nat.add_zero, wrap_i64]
      exact Ends.some rfl
    · have z1 := decide_eq_true (show o.own ≠ -1 from a1)
      by_cases c0 : e.e = 0
      · skip
        rw [tupM_none]
        simp (maxSteps := 1000000) (disch := first | omega | (simp (disch := first | omega | (simp only [EvV.len, MonV.len, refC_len, List.length_append, List.length_cons, List.length_nil, List.length_set]; first | done | omega)) only [EvV.len, MonV.len, refC_len, amSide, Int.reduceToNat, Nat.reducePow, Nat.reduceMul]; first | done | omega)) only  [↓amPre, amPost, ↓s_lit', Nat.reduceAdd, Nat.reduceSub, List.replicate, retA, resultsA, resultA, toC, toCL, Nat.reduceEqDiff, (ze43 S.p), (bu43 S.p), (fa29_0 S.p), (fa29_1 S.p), (fa29_2 S.p), (fa29_4 S.p), (fa43_0 S.p), (fa43_1 S.p), (fa43_2 S.p), (fa47_3 S.p), (fa47_4 S.p), (fa47_6 S.p), (fa47_7 S.p), iaddr_ptr (un40 S.p) (sz3 S.p), iaddr_ptr (un41 S.p) (sz4 S.p), iaddr_ptr (un44 S.p) (sz43 S.p), iaddr_ptr (un45 S.p) (sz44 S.p), part_sc (ag3 S.p), part_sc (ag4 S.p), part_all (ag43 S.p) (sz43 S.p), part_at (ag43 S.p) (sz43 S.p), part_all (ag47 S.p) (sz47 S.p), part_at (ag47 S.p) (sz47 S.p), store_last (sz3 S.p), (sz3 S.p), store_last (sz4 S.p), (sz4 S.p), store_last (sz43 S.p), (sz43 S.p), store_last (sz47 S.p), (sz47 S.p), hz, hpV, hpl, g0, g1, gf, e0, e1, e2, e4, hq3, hq1, z1, splC, splice_one, beqI_t, beqI_f, bneI_t, bneI_f, bne_self_eq_false, idx_ok, cells_self, cells_other, Int.toNat_natCast, Nat.mul_one, Nat.zero_add, Nat.add_zero, wrap_i64]
        exact Ends.some rfl
      by_cases c13 : e.e = 13
      · skip
        rw [tupM_none]
        simp (maxSteps := 1000000) (disch := first | omega | (simp (disch := first | omega | (simp only [EvV.len, MonV.len, refC_len, List.length_append, List.length_cons, List.length_nil, List.length_set]; first | done | omega)) only [EvV.len, MonV.len, refC_len, amSide, Int.reduceToNat, Nat.reducePow, Nat.reduceMul]; first | done | omega)) only  [↓amPre, amPost, ↓s_lit', Nat.reduceAdd, Nat.reduceSub, List.replicate, retA, resultsA, resultA, toC, toCL, Nat.reduceEqDiff, (ze43 S.p), (bu43 S.p), (fa29_0 S.p), (fa29_1 S.p), (fa29_2 S.p), (fa29_4 S.p), (fa43_0 S.p), (fa43_1 S.p), (fa43_2 S.p), (fa47_3 S.p), (fa47_4 S.p), (fa47_6 S.p), (fa47_7 S.p), iaddr_ptr (un40 S.p) (sz3 S.p), iaddr_ptr (un41 S.p) (sz4 S.p), iaddr_ptr (un44 S.p) (sz43 S.p), iaddr_ptr (un45 S.p) (sz44 S.p), part_sc (ag3 S.p), part_sc (ag4 S.p), part_all (ag43 S.p) (sz43 S.p), part_at (ag43 S.p) (sz43 S.p), part_all (ag47 S.p) (sz47 S.p), part_at (ag47 S.p) (sz47 S.p), store_last (sz3 S.p), (sz3 S.p), store_last (sz4 S.p), (sz4 S.p), store_last (sz43 S.p), (sz43 S.p), store_last (sz47 S.p), (sz47 S.p), hz, hpV, hpl, g0, g1, gf, e0, e1, e2, e4, hq3, hq1, z1, splC, splice_one, beqI_t, beqI_f, bneI_t, bneI_f, bne_self_eq_false, idx_ok, cells_self, cells_other, Int.toNat_natCast, Nat.mul_one, Nat.zero_add, Nat.add_zero, wrap_i64]
        exact Ends.some rfl
      by_cases c12 : e.e = 12
      · skip
        rw [tupM_none]
        simp (maxSteps := 1000000) (disch := first | omega | (simp (disch := first | omega | (simp only [EvV.len, MonV.len, refC_len, List.length_append, List.length_cons, List.length_nil, List.length_set]; first | done | omega)) only [EvV.len, MonV.len, refC_len, amSide, Int.reduceToNat, Nat.reducePow, Nat.reduceMul]; first | done | omega)) only  [↓amPre, amPost, ↓s_lit', Nat.reduceAdd, Nat.reduceSub, List.replicate, retA, resultsA, resultA, toC, toCL, Nat.reduceEqDiff, (ze43 S.p), (bu43 S.p), (fa29_0 S.p), (fa29_1 S.p), (fa29_2 S.p), (fa29_4 S.p), (fa43_0 S.p), (fa43_1 S.p), (fa43_2 S.p), (fa47_3 S.p), (fa47_4 S.p), (fa47_6 S.p), (fa47_7 S.p), iaddr_ptr (un40 S.p) (sz3 S.p), iaddr_ptr (un41 S.p) (sz4 S.p), iaddr_ptr (un44 S.p) (sz43 S.p), iaddr_ptr (un45 S.p) (sz44 S.p), part_sc (ag3 S.p), part_sc (ag4 S.p), part_all (ag43 S.p) (sz43 S.p), part_at (ag43 S.p) (sz43 S.p), part_all (ag47 S.p) (sz47 S.p), part_at (ag47 S.p) (sz47 S.p), store_last (sz3 S.p), (sz3 S.p), store_last (sz4 S.p), (sz4 S.p), store_last (sz43 S.p), (sz43 S.p), store_last (sz47 S.p), (sz47 S.p), hz, hpV, hpl, g0, g1, gf, e0, e1, e2, e4, hq3, hq1, z1, splC, splice_one, beqI_t, beqI_f, bneI_t, bneI_f, bne_self_eq_false, idx_ok, cells_self, cells_other, Int.toNat_natCast, Nat.mul_one, Nat.zero_add, Nat.add_zero, wrap_i64]
        exact Ends.some rfl
      rw [tupM_none]
      simp (maxSteps := 1000000) (disch := first | omega | (simp (disch := first | omega | (simp only [EvV.len, MonV.len, refC_len, List.length_append, List.length_cons, List.length_nil, List.length_set]; first | done | omega)) only [EvV.len, MonV.len, refC_len, amSide, Int.reduceToNat, Nat.reducePow, Nat.reduceMul]; first | done | omega)) only  [↓amPre, amPost, ↓s_lit', Nat.reduceAdd, Nat.reduceSub, List.replicate, retA, resultsA, resultA, toC, toCL, Nat.reduceEqDiff, (ze43 S.p), (bu43 S.p), (fa29_0 S.p), (fa29_1 S.p), (fa29_2 S.p), (fa29_4 S.p), (fa43_0 S.p), (fa43_1 S.p), (fa43_2 S.p), (fa47_3 S.p), (fa47_4 S.p), (fa47_6 S.p), (fa47_7 S.p), iaddr_ptr (un40 S.p) (sz3 S.p), iaddr_ptr (un41 S.p) (sz4 S.p), iaddr_ptr (un44 S.p) (sz43 S.p), iaddr_ptr (un45 S.p) (sz44 S.p), part_sc (ag3 S.p), part_sc (ag4 S.p), part_all (ag43 S.p) (sz43 S.p), part_at (ag43 S.p) (sz43 S.p), part_all (ag47 S.p) (sz47 S.p), part_at (ag47 S.p) (sz47 S.p), store_last (sz3 S.p), (sz3 S.p), store_last (sz4 S.p), (sz4 S.p), store_last (sz43 S.p), (sz43 S.p), store_last (sz47 S.p), (sz47 S.p), hz, hpV, hpl, g0, g1, gf, e0, e1, e2, e4, hq3, hq1, z1, splC, splice_one, beqI_t, beqI_f, bneI_t, bneI_f, bne_self_eq_false, idx_ok, cells_self, cells_other, Int.toNat_natCast, Nat.mul_one, Nat.zero_add, Nat.add_zero, wrap_i64]
      exact Ends.some rfl
  | some w =>
    have hlv : endV V e o = if o.own ≠ -1 ∨ w.why ≠ e.e then none else some { (if e.e = 12 then V.setF th false else V).setM ob ⟨(th : Int), w.cnt, o.hsh⟩ with left := delP ((ob : Int), (th : Int)) V.left } := by unfold endV; rw [hto, hto2, ho, ht, g]
    rw [hlv]
    have hw : lcR V ob th = w.cnt := by unfold lcR; rw [g]
    have hv : lwR V ob th = w.why := by unfold lwR; rw [g]
    rw [hw, hv] at hpl
    have hw1 := (I.lc _ (getP_mem g)).1
    have hwy := Wy _ (getP_mem g)
    simp only at hw1 hwy
    have hnw : getP ((ob : Int), (th : Int)) V.waits = none := by
      cases hq : getP ((ob : Int), (th : Int)) V.waits with
      | none => rfl
      | some v =>
        have := (I.wo ob o th hx (by rw [hq]; simp)).2
        rw [g] at this; cases this
    by_cases a1 : o.own = -1
    · have z1 := decide_eq_false (fun r : o.own ≠ -1 => r a1)
      by_cases a3 : w.why = e.e
      · rw [if_neg (fun q => q.elim (fun q => q a1) (fun q => q a3))]
        have st0 := refC_end h8 t8 I.ok.ld hnw
        have hx1 : ({ V with left := delP ((ob : Int), (th : Int)) V.left } : MdV).mons[ob]? = some o := hx
        have st1 := refC_setOwn h8 hx1 (th : Int)
        have hx2 : (MdV.setM { V with left := delP ((ob : Int), (th : Int)) V.left } ob ⟨(th : Int), o.cnt, o.hsh⟩).mons[ob]? = some ⟨(th : Int), o.cnt, o.hsh⟩ := List.getElem?_set_self hob
        have st2 := refC_setCnt h8 hx2 w.cnt
        have hVV : (MdV.setM { V with left := delP ((ob : Int), (th : Int)) V.left } ob ⟨(th : Int), o.cnt, o.hsh⟩).setM ob ⟨(th : Int), w.cnt, o.hsh⟩ = { V.setM ob ⟨(th : Int), w.cnt, o.hsh⟩ with left := delP ((ob : Int), (th : Int)) V.left } := by simp [MdV.setM]
        simp only at st2
        rw [hVV] at st2
        by_cases c12 : e.e = 12
        · rw [if_pos c12]
          have ht3 : th < ({ V.setM ob ⟨(th : Int), w.cnt, o.hsh⟩ with left := delP ((ob : Int), (th : Int)) V.left } : MdV).flags.length := hth
          have st3 := refC_setFlg t8 ht3 false
          have hV3 : MdV.setF { V.setM ob ⟨(th : Int), w.cnt, o.hsh⟩ with left := delP ((ob : Int), (th : Int)) V.left } th false = { (V.setF th false).setM ob ⟨(th : Int), w.cnt, o.hsh⟩ with left := delP ((ob : Int), (th : Int)) V.left } := rfl
          rw [hV3] at st3
          have hpV2 := partV S { (V.setF th false).setM ob ⟨(th : Int), w.cnt, o.hsh⟩ with left := delP ((ob : Int), (th : Int)) V.left }
          rw [tupM_some]
          simp (maxSteps := 1000000) (disch := first | omega | (simp (disch := first | omega | (simp only [EvV.len, MonV.len, refC_len, List.length_append, List.length_cons, List.length_nil, List.length_set]; first | done | omega)) only [EvV.len, MonV.len, refC_len, amSide, Int.reduceToNat, Nat.reducePow, Nat.reduceMul]; first | done | omega)) only  [↓amPre, amPost, ↓s_lit', Nat.reduceAdd, Nat.reduceSub, List.replicate, retA, resultsA, resultA, toC, toCL, Nat.reduceEqDiff, (ze43 S.p), (bu43 S.p), (fa29_0 S.p), (fa29_1 S.p), (fa29_2 S.p), (fa29_4 S.p), (fa43_0 S.p), (fa43_1 S.p), (fa43_2 S.p), (fa47_3 S.p), (fa47_4 S.p), (fa47_6 S.p), (fa47_7 S.p), iaddr_ptr (un40 S.p) (sz3 S.p), iaddr_ptr (un41 S.p) (sz4 S.p), iaddr_ptr (un44 S.p) (sz43 S.p), iaddr_ptr (un45 S.p) (sz44 S.p), part_sc (ag3 S.p), part_sc (ag4 S.p), part_all (ag43 S.p) (sz43 S.p), part_at (ag43 S.p) (sz43 S.p), part_all (ag47 S.p) (sz47 S.p), part_at (ag47 S.p) (sz47 S.p), store_last (sz3 S.p), (sz3 S.p), store_last (sz4 S.p), (sz4 S.p), store_last (sz43 S.p), (sz43 S.p), store_last (sz47 S.p), (sz47 S.p), hz, hpV, hpl, g0, g1, gf, e0, e1, e2, e4, hq3, hq1, z1, st0, st1, st2, st3, hpV2, splC, splice_one, beqI_t, beqI_f, bneI_t, bneI_f, bne_self_eq_false, idx_ok, cells_self, cells_other, Int.toNat_natCast, Nat.mul_one, Nat.zero_add, Nat.add_zero, wrap_i64]
          exact Ends.some rfl
        · rw [if_neg c12]
          have hpV2 := partV S { V.setM ob ⟨(th : Int), w.cnt, o.hsh⟩ with left := delP ((ob : Int), (th : Int)) V.left }
          rcases (show e.e = 0 ∨ e.e = 13 by omega) with c0 | c0
          · skip
            rw [tupM_some]
            simp (maxSteps := 1000000) (disch := first | omega | (simp (disch := first | omega | (simp only [EvV.len, MonV.len, refC_len, List.length_append, List.length_cons, List.length_nil, List.length_set]; first | done | omega)) only [EvV.len, MonV.len, refC_len, amSide, Int.reduceToNat, Nat.reducePow, Nat.reduceMul]; first | done | omega)) only  [↓amPre, amPost, ↓s_lit', Nat.reduceAdd, Nat.reduceSub, List.replicate, retA, resultsA, resultA, toC, toCL, Nat.reduceEqDiff, (ze43 S.p), (bu43 S.p), (fa29_0 S.p), (fa29_1 S.p), (fa29_2 S.p), (fa29_4 S.p), (fa43_0 S.p), (fa43_1 S.p), (fa43_2 S.p), (fa47_3 S.p), (fa47_4 S.p), (fa47_6 S.p), (fa47_7 S.p), iaddr_ptr (un40 S.p) (sz3 S.p), iaddr_ptr (un41 S.p) (sz4 S.p), iaddr_ptr (un44 S.p) (sz43 S.p), iaddr_ptr (un45 S.p) (sz44 S.p), part_sc (ag3 S.p), part_sc (ag4 S.p), part_all (ag43 S.p) (sz43 S.p), part_at (ag43 S.p) (sz43 S.p), part_all (ag47 S.p) (sz47 S.p), part_at (ag47 S.p) (sz47 S.p), store_last (sz3 S.p), (sz3 S.p), store_last (sz4 S.p), (sz4 S.p), store_last (sz43 S.p), (sz43 S.p), store_last (sz47 S.p), (sz47 S.p), hz, hpV, hpl, g0, g1, gf, e0, e1, e2, e4, hq3, hq1, z1, st0, st1, st2, hpV2, splC, splice_one, beqI_t, beqI_f, bneI_t, bneI_f, bne_self_eq_false, idx_ok, cells_self, cells_other, Int.toNat_natCast, Nat.mul_one, Nat.zero_add, Nat.add_zero, wrap_i64]
            exact Ends.some rfl
          · skip
            rw [tupM_some]
            simp (maxSteps := 1000000) (disch := first | omega | (simp (disch := first | omega | (simp only [EvV.len, MonV.len, refC_len, List.length_append, List.length_cons, List.length_nil, List.length_set]; first | done | omega)) only [EvV.len, MonV.len, refC_len, amSide, Int.reduceToNat, Nat.reducePow, Nat.reduceMul]; first | done | omega)) only  [↓amPre, amPost, ↓s_lit', Nat.reduceAdd, Nat.reduceSub, List.replicate, retA, resultsA, resultA, toC, toCL, Nat.reduceEqDiff, (ze43 S.p), (bu43 S.p), (fa29_0 S.p), (fa29_1 S.p), (fa29_2 S.p), (fa29_4 S.p), (fa43_0 S.p), (fa43_1 S.p), (fa43_2 S.p), (fa47_3 S.p), (fa47_4 S.p), (fa47_6 S.p), (fa47_7 S.p), iaddr_ptr (un40 S.p) (sz3 S.p), iaddr_ptr (un41 S.p) (sz4 S.p), iaddr_ptr (un44 S.p) (sz43 S.p), iaddr_ptr (un45 S.p) (sz44 S.p), part_sc (ag3 S.p), part_sc (ag4 S.p), part_all (ag43 S.p) (sz43 S.p), part_at (ag43 S.p) (sz43 S.p), part_all (ag47 S.p) (sz47 S.p), part_at (ag47 S.p) (sz47 S.p), store_last (sz3 S.p), (sz3 S.p), store_last (sz4 S.p), (sz4 S.p), store_last (sz43 S.p), (sz43 S.p), store_last (sz47 S.p), (sz47 S.p), hz, hpV, hpl, g0, g1, gf, e0, e1, e2, e4, hq3, hq1, z1, st0, st1, st2, hpV2, splC, splice_one, beqI_t, beqI_f, bneI_t, bneI_f, bne_self_eq_false, idx_ok, cells_self, cells_other, Int.toNat_natCast, Nat.mul_one, Nat.zero_add, Nat.add_zero, wrap_i64]
            exact Ends.some rfl
      · rw [if_pos (Or.inr a3)]
        by_cases c0 : e.e = 0
        · skip
          rw [tupM_none]
          simp (maxSteps := 1000000) (disch := first | omega | (simp (disch := first | omega | (simp only [EvV.len, MonV.len, refC_len, List.length_append, List.length_cons, List.length_nil, List.length_set]; first | done | omega)) only [EvV.len, MonV.len, refC_len, amSide, Int.reduceToNat, Nat.reducePow, Nat.reduceMul]; first | done | omega)) only  [↓amPre, amPost, ↓s_lit', Nat.reduceAdd, Nat.reduceSub, List.replicate, retA, resultsA, resultA, toC, toCL, Nat.reduceEqDiff, (ze43 S.p), (bu43 S.p), (fa29_0 S.p), (fa29_1 S.p), (fa29_2 S.p), (fa29_4 S.p), (fa43_0 S.p), (fa43_1 S.p), (fa43_2 S.p), (fa47_3 S.p), (fa47_4 S.p), (fa47_6 S.p), (fa47_7 S.p), iaddr_ptr (un40 S.p) (sz3 S.p), iaddr_ptr (un41 S.p) (sz4 S.p), iaddr_ptr (un44 S.p) (sz43 S.p), iaddr_ptr (un45 S.p) (sz44 S.p), part_sc (ag3 S.p), part_sc (ag4 S.p), part_all (ag43 S.p) (sz43 S.p), part_at (ag43 S.p) (sz43 S.p), part_all (ag47 S.p) (sz47 S.p), part_at (ag47 S.p) (sz47 S.p), store_last (sz3 S.p), (sz3 S.p), store_last (sz4 S.p), (sz4 S.p), store_last (sz43 S.p), (sz43 S.p), store_last (sz47 S.p), (sz47 S.p), hz, hpV, hpl, g0, g1, gf, e0, e1, e2, e4, hq3, hq1, z1, splC, splice_one, beqI_t, beqI_f, bneI_t, bneI_f, bne_self_eq_false, idx_ok, cells_self, cells_other, Int.toNat_natCast, Nat.mul_one, Nat.zero_add, Nat.add_zero, wrap_i64]
          exact Ends.some rfl
        by_cases c13 : e.e = 13
        · skip
          rw [tupM_none]
          simp (maxSteps := 1000000) (disch := first | omega | (simp (disch := first | omega | (simp only [EvV.len, MonV.len, refC_len, List.length_append, List.length_cons, List.length_nil, List.length_set]; first | done | omega)) only [EvV.len, MonV.len, refC_len, amSide, Int.reduceToNat, Nat.reducePow, Nat.reduceMul]; first | done | omega)) only  [↓amPre, amPost, ↓s_lit', Nat.reduceAdd, Nat.reduceSub, List.replicate, retA, resultsA, resultA, toC, toCL, Nat.reduceEqDiff, (ze43 S.p), (bu43 S.p), (fa29_0 S.p), (fa29_1 S.p), (fa29_2 S.p), (fa29_4 S.p), (fa43_0 S.p), (fa43_1 S.p), (fa43_2 S.p), (fa47_3 S.p), (fa47_4 S.p), (fa47_6 S.p), (fa47_7 S.p), iaddr_ptr (un40 S.p) (sz3 S.p), iaddr_ptr (un41 S.p) (sz4 S.p), iaddr_ptr (un44 S.p) (sz43 S.p), iaddr_ptr (un45 S.p) (sz44 S.p), part_sc (ag3 S.p), part_sc (ag4 S.p), part_all (ag43 S.p) (sz43 S.p), part_at (ag43 S.p) (sz43 S.p), part_all (ag47 S.p) (sz47 S.p), part_at (ag47 S.p) (sz47 S.p), store_last (sz3 S.p), (sz3 S.p), store_last (sz4 S.p), (sz4 S.p), store_last (sz43 S.p), (sz43 S.p), store_last (sz47 S.p), (sz47 S.p), hz, hpV, hpl, g0, g1, gf, e0, e1, e2, e4, hq3, hq1, z1, splC, splice_one, beqI_t, beqI_f, bneI_t, bneI_f, bne_self_eq_false, idx_ok, cells_self, cells_other, Int.toNat_natCast, Nat.mul_one, Nat.zero_add, Nat.add_zero, wrap_i64]
          exact Ends.some rfl
        by_cases c12 : e.e = 12
        · skip
          rw [tupM_none]
          simp (maxSteps := 1000000) (disch := first | omega | (simp (disch := first | omega | (simp only [EvV.len, MonV.len, refC_len, List.length_append, List.length_cons, List.length_nil, List.length_set]; first | done | omega)) only [EvV.len, MonV.len, refC_len, amSide, Int.reduceToNat, Nat.reducePow, Nat.reduceMul]; first | done | omega)) only  [↓amPre, amPost, ↓s_lit', Nat.reduceAdd, Nat.reduceSub, List.replicate, retA, resultsA, resultA, toC, toCL, Nat.reduceEqDiff, (ze43 S.p), (bu43 S.p), (fa29_0 S.p), (fa29_1 S.p), (fa29_2 S.p), (fa29_4 S.p), (fa43_0 S.p), (fa43_1 S.p), (fa43_2 S.p), (fa47_3 S.p), (fa47_4 S.p), (fa47_6 S.p), (fa47_7 S.p), iaddr_ptr (un40 S.p) (sz3 S.p), iaddr_ptr (un41 S.p) (sz4 S.p), iaddr_ptr (un44 S.p) (sz43 S.p), iaddr_ptr (un45 S.p) (sz44 S.p), part_sc (ag3 S.p), part_sc (ag4 S.p), part_all (ag43 S.p) (sz43 S.p), part_at (ag43 S.p) (sz43 S.p), part_all (ag47 S.p) (sz47 S.p), part_at (ag47 S.p) (sz47 S.p), store_last (sz3 S.p), (sz3 S.p), store_last (sz4 S.p), (sz4 S.p), store_last (sz43 S.p), (sz43 S.p), store_last (sz47 S.p), (sz47 S.p), hz, hpV, hpl, g0, g1, gf, e0, e1, e2, e4, hq3, hq1, z1, splC, splice_one, beqI_t, beqI_f, bneI_t, bneI_f, bne_self_eq_false, idx_ok, cells_self, cells_other, Int.toNat_natCast, Nat.mul_one, Nat.zero_add, Nat.add_zero, wrap_i64]
          exact Ends.some rfl
        rw [tupM_none]
        simp (maxSteps := 1000000) (disch := first | omega | (simp (disch := first | omega | (simp only [EvV.len, MonV.len, refC_len, List.length_append, List.length_cons, List.length_nil, List.length_set]; first | done | omega)) only [EvV.len, MonV.len, refC_len, amSide, Int.reduceToNat, Nat.reducePow, Nat.reduceMul]; first | done | omega)) only  [↓amPre, amPost, ↓s_lit', Nat.reduceAdd, Nat.reduceSub, List.replicate, retA, resultsA, resultA, toC, toCL, Nat.reduceEqDiff, (ze43 S.p), (bu43 S.p), (fa29_0 S.p), (fa29_1 S.p), (fa29_2 S.p), (fa29_4 S.p), (fa43_0 S.p), (fa43_1 S.p), (fa43_2 S.p), (fa47_3 S.p), (fa47_4 S.p), (fa47_6 S.p), (fa47_7 S.p), iaddr_ptr (un40 S.p) (sz3 S.p), iaddr_ptr (un41 S.p) (sz4 S.p), iaddr_ptr (un44 S.p) (sz43 S.p), iaddr_ptr (un45 S.p) (sz44 S.p), part_sc (ag3 S.p), part_sc (ag4 S.p), part_all (ag43 S.p) (sz43 S.p), part_at (ag43 S.p) (sz43 S.p), part_all (ag47 S.p) (sz47 S.p), part_at (ag47 S.p) (sz47 S.p), store_last (sz3 S.p), (sz3 S.p), store_last (sz4 S.p), (sz4 S.p), store_last (sz43 S.p), (sz43 S.p), store_last (sz47 S.p), (sz47 S.p), hz, hpV, hpl, g0, g1, gf, e0, e1, e2, e4, hq3, hq1, z1, splC, splice_one, beqI_t, beqI_f, bneI_t, bneI_f, bne_self_eq_false, idx_ok, cells_self, cells_other, Int.toNat_natCast, Nat.mul_one, Nat.zero_add, Nat.add_zero, wrap_i64]
        exact Ends.some rfl
    · have z1 := decide_eq_true (show o.own ≠ -1 from a1)
      rw [if_pos (Or.inl a1)]
      by_cases c0 : e.e = 0
      · skip
        rw [tupM_none]
        simp (maxSteps := 1000000) (disch := first | omega | (simp (disch := first | omega | (simp only [EvV.len, MonV.len, refC_len, List.length_append, List.length_cons, List.length_nil, List.length_set]; first | done | omega)) only [EvV.len, MonV.len, refC_len, amSide, Int.reduceToNat, Nat.reducePow, Nat.reduceMul]; first | done | omega)) only  [↓amPre, amPost, ↓s_lit', Nat.reduceAdd, Nat.reduceSub, List.replicate, retA, resultsA, resultA, toC, toCL, Nat.reduceEqDiff, (ze43 S.p), (bu43 S.p), (fa29_0 S.p), (fa29_1 S.p), (fa29_2 S.p), (fa29_4 S.p), (fa43_0 S.p), (fa43_1 S.p), (fa43_2 S.p), (fa47_3 S.p), (fa47_4 S.p), (fa47_6 S.p), (fa47_7 S.p), iaddr_ptr (un40 S.p) (sz3 S.p), iaddr_ptr (un41 S.p) (sz4 S.p), iaddr_ptr (un44 S.p) (sz43 S.p), iaddr_ptr (un45 S.p) (sz44 S.p), part_sc (ag3 S.p), part_sc (ag4 S.p), part_all (ag43 S.p) (sz43 S.p), part_at (ag43 S.p) (sz43 S.p), part_all (ag47 S.p) (sz47 S.p), part_at (ag47 S.p) (sz47 S.p), store_last (sz3 S.p), (sz3 S.p), store_last (sz4 S.p), (sz4 S.p), store_last (sz43 S.p), (sz43 S.p), store_last (sz47 S.p), (sz47 S.p), hz, hpV, hpl, g0, g1, gf, e0, e1, e2, e4, hq3, hq1, z1, splC, splice_one, beqI_t, beqI_f, bneI_t, bneI_f, bne_self_eq_false, idx_ok, cells_self, cells_other, Int.toNat_natCast, Nat.mul_one, Nat.zero_add, Nat.add_zero, wrap_i64]
        exact Ends.some rfl
      by_cases c13 : e.e = 13
      · skip
        rw [tupM_none]
        simp (maxSteps := 1000000) (disch := first | omega | (simp (disch := first | omega | (simp only [EvV.len, MonV.len, refC_len, List.length_append, List.length_cons, List.length_nil, List.length_set]; first | done | omega)) only [EvV.len, MonV.len, refC_len, amSide, Int.reduceToNat, Nat.reducePow, Nat.reduceMul]; first | done | omega)) only  [↓amPre, amPost, ↓s_lit', Nat.reduceAdd, Nat.reduceSub, List.replicate, retA, resultsA, resultA, toC, toCL, Nat.reduceEqDiff, (ze43 S.p), (bu43 S.p), (fa29_0 S.p), (fa29_1 S.p), (fa29_2 S.p), (fa29_4 S.p), (fa43_0 S.p), (fa43_1 S.p), (fa43_2 S.p), (fa47_3 S.p), (fa47_4 S.p), (fa47_6 S.p), (fa47_7 S.p), iaddr_ptr (un40 S.p) (sz3 S.p), iaddr_ptr (un41 S.p) (sz4 S.p), iaddr_ptr (un44 S.p) (sz43 S.p), iaddr_ptr (un45 S.p) (sz44 S.p), part_sc (ag3 S.p), part_sc (ag4 S.p), part_all (ag43 S.p) (sz43 S.p), part_at (ag43 S.p) (sz43 S.p), part_all (ag47 S.p) (sz47 S.p), part_at (ag47 S.p) (sz47 S.p), store_last (sz3 S.p), (sz3 S.p), store_last (sz4 S.p), (sz4 S.p), store_last (sz43 S.p), (sz43 S.p), store_last (sz47 S.p), (sz47 S.p), hz, hpV, hpl, g0, g1, gf, e0, e1, e2, e4, hq3, hq1, z1, splC, splice_one, beqI_t, beqI_f, bneI_t, bneI_f, bne_self_eq_false, idx_ok, cells_self, cells_other, Int.toNat_natCast, Nat.mul_one, Nat.zero_add, Nat.add_zero, wrap_i64]
        exact Ends.some rfl
      by_cases c12 : e.e = 12
      · skip
        rw [tupM_none]
        simp (maxSteps := 1000000) (disch := first | omega | (simp (disch := first | omega | (simp only [EvV.len, MonV.len, refC_len, List.length_append, List.length_cons, List.length_nil, List.length_set]; first | done | omega)) only [EvV.len, MonV.len, refC_len, amSide, Int.reduceToNat, Nat.reducePow, Nat.reduceMul]; first | done | omega)) only  [↓amPre, amPost, ↓s_lit', Nat.reduceAdd, Nat.reduceSub, List.replicate, retA, resultsA, resultA, toC, toCL, Nat.reduceEqDiff, (ze43 S.p), (bu43 S.p), (fa29_0 S.p), (fa29_1 S.p), (fa29_2 S.p), (fa29_4 S.p), (fa43_0 S.p), (fa43_1 S.p), (fa43_2 S.p), (fa47_3 S.p), (fa47_4 S.p), (fa47_6 S.p), (fa47_7 S.p), iaddr_ptr (un40 S.p) (sz3 S.p), iaddr_ptr (un41 S.p) (sz4 S.p), iaddr_ptr (un44 S.p) (sz43 S.p), iaddr_ptr (un45 S.p) (sz44 S.p), part_sc (ag3 S.p), part_sc (ag4 S.p), part_all (ag43 S.p) (sz43 S.p), part_at (ag43 S.p) (sz43 S.p), part_all (ag47 S.p) (sz47 S.p), part_at (ag47 S.p) (sz47 S.p), store_last (sz3 S.p), (sz3 S.p), store_last (sz4 S.p), (sz4 S.p), store_last (sz43 S.p), (sz43 S.p), store_last (sz47 S.p), (sz47 S.p), hz, hpV, hpl, g0, g1, gf, e0, e1, e2, e4, hq3, hq1, z1, splC, splice_one, beqI_t, beqI_f, bneI_t, bneI_f, bne_self_eq_false, idx_ok, cells_self, cells_other, Int.toNat_natCast, Nat.mul_one, Nat.zero_add, Nat.add_zero, wrap_i64]
        exact Ends.some rfl
      rw [tupM_none]
      simp (maxSteps := 1000000) (disch := first | omega | (simp (disch := first | omega | (simp only [EvV.len, MonV.len, refC_len, List.length_append, List.length_cons, List.length_nil, List.length_set]; first | done | omega)) only [EvV.len, MonV.len, refC_len, amSide, Int.reduceToNat, Nat.reducePow, Nat.reduceMul]; first | done | omega)) only  [↓amPre, amPost, ↓s_lit', Nat.reduceAdd, Nat.reduceSub, List.replicate, retA, resultsA, resultA, toC, toCL, Nat.reduceEqDiff, (ze43 S.p), (bu43 S.p), (fa29_0 S.p), (fa29_1 S.p), (fa29_2 S.p), (fa29_4 S.p), (fa43_0 S.p), (fa43_1 S.p), (fa43_2 S.p), (fa47_3 S.p), (fa47_4 S.p), (fa47_6 S.p), (fa47_7 S.p), iaddr_ptr (un40 S.p) (sz3 S.p), iaddr_ptr (un41 S.p) (sz4 S.p), iaddr_ptr (un44 S.p) (sz43 S.p), iaddr_ptr (un45 S.p) (sz44 S.p), part_sc (ag3 S.p), part_sc (ag4 S.p), part_all (ag43 S.p) (sz43 S.p), part_at (ag43 S.p) (sz43 S.p), part_all (ag47 S.p) (sz47 S.p), part_at (ag47 S.p) (sz47 S.p), store_last (sz3 S.p), (sz3 S.p), store_last (sz4 S.p), (sz4 S.p), store_last (sz43 S.p), (sz43 S.p), store_last (sz47 S.p), (sz47 S.p), hz, hpV, hpl, g0, g1, gf, e0, e1, e2, e4, hq3, hq1, z1, splC, splice_one, beqI_t, beqI_f, bneI_t, bneI_f, bne_self_eq_false, idx_ok, cells_self, cells_other, Int.toNat_natCast, Nat.mul_one, Nat.zero_add, Nat.add_zero, wrap_i64]
      exact Ends.some rfl
end
end Go.AM
