/- The values of the law's types: how they are laid out, what they weigh, how they are marked. -/
import Derived.Test.YtlgdijjkegeccaaFnT
namespace Go.Proofs.Ytlgdijjkegeccaa
open Go Go.RowKit Go.Bv
set_option linter.unusedSimpArgs false
set_option linter.unusedVariables false
set_option maxRecDepth 4000
theorem wrap_small {n : Int} (h : -9223372036854775808 ≤ n) (h' : n ≤ 9223372036854775807) : IntKind.i64.wrap n = n := by rw [IntKind.wrap_i64]; omega

/-! Lists, piece by piece -/
section
variable {α : Type}
def sumL (w : α → Nat) (f : List α) : Nat := (f.map w).sum
theorem sumL_append (w : α → Nat) (f g : List α) : sumL w (f ++ g) = sumL w f + sumL w g := by simp [sumL]
theorem sumL_succ (w : α → Nat) {f : List α} {i : Nat} {x : α} (h : f[i]? = some x) : sumL w (f.take (i + 1)) = sumL w (f.take i) + w x := by
  rw [List.take_add_one, h, sumL_append]; simp [sumL]
theorem sumL_le (w : α → Nat) (f : List α) (i : Nat) : sumL w (f.take i) ≤ sumL w f := by
  have := sumL_append w (f.take i) (f.drop i)
  rw [List.take_append_drop] at this
  omega
theorem sumL_mem (w : α → Nat) {f : List α} {i : Nat} {x : α} (h : f[i]? = some x) : w x ≤ sumL w f := by
  have := sumL_succ w h
  have := sumL_le w f (i + 1)
  omega
theorem sumL_zero (w : α → Nat) (h : ∀ x, w x = 0) (f : List α) : sumL w f = 0 := by
  induction f with
  | nil => rfl
  | cons x f ih => simp only [sumL, List.map_cons, List.sum_cons, h] at ih ⊢; omega
theorem w_le (w : α → Nat) {f : List α} {i : Nat} {x : α} {n : Nat} (h : f[i]? = some x) (hw : f.length + sumL w f ≤ n) : w x ≤ n := by
  have := sumL_mem w h
  omega
theorem sum10 {mw w : α → Nat} (h : ∀ x, mw x ≤ 10 * (1 + w x)) (f : List α) : sumL mw f ≤ 10 * (f.length + sumL w f) := by
  induction f with
  | nil => simp [sumL]
  | cons x f ih => have := h x; simp only [sumL, List.map_cons, List.sum_cons, List.length_cons] at ih ⊢; omega
variable (me : α → Int → α) (mw : α → Nat)
/-- All marked, in their order. -/
def mkL : List α → Int → List α
  | [], _ => []
  | x :: xs, k => me x k :: mkL xs (k + (mw x : Nat))
theorem mkL_len : ∀ (f : List α) (k : Int), (mkL me mw f k).length = f.length
  | [], _ => rfl
  | x :: f, k => by simp [mkL, mkL_len f]
theorem mkL_append : ∀ (f g : List α) (k : Int), mkL me mw (f ++ g) k = mkL me mw f k ++ mkL me mw g (k + (sumL mw f : Nat))
  | [], g, k => by simp [mkL, sumL]
  | x :: f, g, k => by
    simp only [List.cons_append, mkL, mkL_append f g]
    rw [show k + ((mw x : Nat) : Int) + ((sumL mw f : Nat) : Int) = k + ((sumL mw (x :: f) : Nat) : Int) by simp only [sumL, List.map_cons, List.sum_cons]; omega]
/-- The first i are marked. -/
def mkI (f : List α) (i : Nat) (k : Int) : List α := mkL me mw (f.take i) k ++ f.drop i
theorem mkI_zero (f : List α) (k : Int) : mkI me mw f 0 k = f := by simp [mkI, mkL]
theorem mkI_len (f : List α) (i : Nat) (k : Int) : (mkI me mw f i k).length = f.length := by
  simp only [mkI, List.length_append, mkL_len, List.length_take, List.length_drop]; omega
theorem mkI_all {f : List α} {i : Nat} (h : f.length ≤ i) {k : Int} : mkI me mw f i k = mkL me mw f k := by
  rw [mkI, List.take_of_length_le h, List.drop_of_length_le h, List.append_nil]
theorem mkI_at {f : List α} {i : Nat} {x : α} (h : f[i]? = some x) {k : Int} : (mkI me mw f i k)[i]? = some x := by
  have hi := (List.getElem?_eq_some_iff.1 h).1
  have hl : (mkL me mw (f.take i) k).length = i := by rw [mkL_len, List.length_take]; omega
  unfold mkI
  rw [List.getElem?_append_right (by omega), hl, Nat.sub_self, List.getElem?_drop]
  simpa using h
theorem mkI_set {f : List α} {i : Nat} {x : α} (h : f[i]? = some x) {k : Int} : (mkI me mw f i k).set i (me x (k + (sumL mw (f.take i) : Nat))) = mkI me mw f (i + 1) k := by
  have hi := (List.getElem?_eq_some_iff.1 h).1
  have hx := (List.getElem?_eq_some_iff.1 h).2
  have hl : (mkL me mw (f.take i) k).length = i := by rw [mkL_len, List.length_take]; omega
  unfold mkI
  rw [List.set_append_right _ _ (by omega), hl, Nat.sub_self, List.take_add_one, h, Option.toList_some, mkL_append, show f.drop i = x :: f.drop (i + 1) by rw [List.drop_eq_getElem_cons hi, hx]]
  simp [mkL]
theorem mkL_at {f : List α} {i : Nat} {x : α} (h : f[i]? = some x) (k : Int) : (mkL me mw f k)[i]? = some (me x (k + (sumL mw (f.take i) : Nat))) := by
  have hi := (List.getElem?_eq_some_iff.1 h).1
  have hl : (mkL me mw (f.take i) k).length = i := by rw [mkL_len, List.length_take]; omega
  conv => lhs; rw [← List.take_append_drop i f]
  rw [mkL_append, List.getElem?_append_right (by omega), hl, Nat.sub_self, List.drop_eq_getElem_cons hi]
  simp [mkL, (List.getElem?_eq_some_iff.1 h).2]
/-- The first i are there, the others are zero. -/
def fillL (enc : α → AV) (z : AV) (f : List α) (i : Nat) : List AV := (f.take i).map enc ++ List.replicate (f.length - i) z
theorem fillL_at (enc : α → AV) (z : AV) {f : List α} {i : Nat} (h : i < f.length) : (fillL enc z f i)[i]? = some z := by
  unfold fillL
  rw [List.getElem?_append_right (by simp; omega), List.getElem?_replicate, if_pos (by simp; omega)]
theorem fillL_set (enc : α → AV) (z : AV) {f : List α} {i : Nat} {t : α} (h : f[i]? = some t) : (fillL enc z f i).set i (enc t) = fillL enc z f (i + 1) := by
  have hi := (List.getElem?_eq_some_iff.1 h).1
  have ht := (List.getElem?_eq_some_iff.1 h).2
  unfold fillL
  rw [List.set_append_right _ _ (by simp; omega)]
  rw [← List.take_append_getElem hi, ht]
  have e : f.length - i = (f.length - (i + 1)) + 1 := by omega
  have e2 : i - ((f.take i).map enc).length = 0 := by simp; omega
  rw [e2, e, List.replicate_succ]
  simp
theorem fillL_all (enc : α → AV) (z : AV) {f : List α} {i : Nat} (h : f.length ≤ i) : fillL enc z f i = f.map enc := by
  unfold fillL
  rw [List.take_of_length_le h, Nat.sub_eq_zero_of_le h]; simp
theorem take_map_len {β : Type} (f : List α) (g : α → β) : List.take f.length (f.map g) = f.map g := List.take_of_length_le (by simp)
theorem ashs_map {g h : α → AV} (H : ∀ x, ash (g x) = h x) (f : List α) : ashs (f.map g) = f.map h := by
  induction f with
  | nil => rfl
  | cons t f ih => simp only [List.map_cons, ashs, ih, H]
theorem plAs_map {g : α → AV} (H : ∀ x, plA (g x) = true) (f : List α) : plAs (f.map g) = true := by
  induction f with
  | nil => rfl
  | cons t f ih => simp only [List.map_cons, plAs, ih, H, Bool.and_self]
theorem leafAs_map {g : α → AV} (H : ∀ x, leafA (g x) = true) (f : List α) : leafAs (f.map g) = true := by
  induction f with
  | nil => rfl
  | cons t f ih => simp only [List.map_cons, leafAs, ih, H, Bool.and_self]
theorem noShs_map {g : α → AV} (H : ∀ x, noSh (g x) = true) (f : List α) : noShs (f.map g) = true := by
  induction f with
  | nil => rfl
  | cons t f ih => simp only [List.map_cons, noShs, ih, H, Bool.and_self]
theorem alen_map {g : α → AV} {n : Nat} (H : ∀ x, alen (g x) = n) (f : List α) : ((f.map g).all fun u => alen u == n) = true := by
  induction f with
  | nil => rfl
  | cons t f ih => simp only [List.map_cons, List.all_cons, ih, H, beq_self_eq_true, Bool.and_self]
end
attribute [go_sem] take_map_len
theorem plAs_set : ∀ {M : List AV} {i : Nat} {v : AV}, plAs M = true → plA v = true → plAs (M.set i v) = true
  | [], _, _, _, _ => rfl
  | x :: M, 0, v, h, hv => by simp only [plAs, Bool.and_eq_true] at h; simp [plAs, h.2, hv]
  | x :: M, i + 1, v, h, hv => by simp only [plAs, Bool.and_eq_true] at h; simp [plAs, h.1, plAs_set h.2 hv]
attribute [go_sem] plAs_set

/-- What is left of a room behind a weight; -1: it is too small. -/
def szW (w : Nat) (left : Int) : Int := if (w : Int) ≤ left then left - w else -1
theorem szW_le {w : Nat} {l n : Int} (h : l ≤ n) (hn : 0 ≤ n := by omega) : szW w l ≤ n := by unfold szW; split <;> omega
theorem szW_cases (w : Nat) (l : Int) : ((w : Int) ≤ l ∧ szW w l = l - w) ∨ (¬ (w : Int) ≤ l ∧ szW w l = -1) := by
  unfold szW; split <;> simp_all
/-! The marks -/
/-- The digits of k ahead of a text. -/
def mDig (k : Nat) (out : ByteArray) : ByteArray :=
  if h : k = 0 then out else mDig (k / 10) (⟨#[UInt8.ofNat (48 + k % 10)]⟩ ++ out)
termination_by k
decreasing_by omega
def mText (k : Int) : ByteArray := if k ≤ 0 then { data := #[109, 48] } else { data := #[109] } ++ mDig k.toNat { data := #[] }
def mBool (k : Int) : Bool := Int.tmod k 3 == 0
/-- The same text. -/
def sameS (a b : ByteArray) : Bool := a.toList == b.toList

/-! The types -/
end Go.Proofs.Ytlgdijjkegeccaa
