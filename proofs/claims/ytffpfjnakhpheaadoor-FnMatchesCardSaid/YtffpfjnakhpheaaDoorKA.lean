/- The seat's types, as the plain steps want them. The values of the law's types: how they are laid out, what they weigh, how they are marked. Contracts: small functions of the filter. Contracts: parts of names, terms. -/
import Derived.Test.YtffpfjnakhpheaaDoorBvM5
import Derived.Test.YtffpfjnakhpheaaDoorProg
namespace Go.Proofs.YtffpfjnakhpheaaDoor
open Go Go.RowKit Go.Bv
set_option linter.unusedSimpArgs false
set_option linter.unusedVariables false
set_option maxRecDepth 4000
noncomputable abbrev P := Tryd.prog
theorem mixed : P.follows .mixedOrders = true := by rfl
noncomputable abbrev G : Tab := tabOf P
theorem hT : TabOk P G := tabOf_ok P mixed
theorem kind3 : G.kind 3 = .int .i64 := kind_eq Tryd.type3 Tryd.underlying3
theorem size3 : G.size 3 = 1 := by rw [size_eq Tryd.type3]; rfl
theorem bytes3 : G.bytes 3 = 8 := by rw [bytes_eq Tryd.type3]; rfl
theorem kind4 : G.kind 4 = .bool := kind_eq Tryd.type4 Tryd.underlying4
theorem size4 : G.size 4 = 1 := by rw [size_eq Tryd.type4]; rfl
theorem bytes4 : G.bytes 4 = 1 := by rw [bytes_eq Tryd.type4]; rfl
theorem kind5 : G.kind 5 = .int .u8 := kind_eq Tryd.type5 Tryd.underlying5
theorem size5 : G.size 5 = 1 := by rw [size_eq Tryd.type5]; rfl
theorem bytes5 : G.bytes 5 = 1 := by rw [bytes_eq Tryd.type5]; rfl
theorem kind9 : G.kind 9 = .str := kind_eq Tryd.type9 Tryd.underlying9
theorem size9 : G.size 9 = 1 := by rw [size_eq Tryd.type9]; rfl
theorem bytes9 : G.bytes 9 = 16 := by rw [bytes_eq Tryd.type9]; rfl
theorem kind21 : G.kind 21 = .int .i32 := kind_eq Tryd.type21 Tryd.underlying21
theorem size21 : G.size 21 = 1 := by rw [size_eq Tryd.type21]; rfl
theorem bytes21 : G.bytes 21 = 4 := by rw [bytes_eq Tryd.type21]; rfl
theorem kind22 : G.kind 22 = .sl 5 := kind_eq Tryd.type22 Tryd.underlying22
theorem size22 : G.size 22 = 1 := by rw [size_eq Tryd.type22]; rfl
theorem bytes22 : G.bytes 22 = 24 := by rw [bytes_eq Tryd.type22]; rfl
theorem kind28 : G.kind 28 = .ptr := kind_eq Tryd.type28 Tryd.underlying28
theorem size28 : G.size 28 = 1 := by rw [size_eq Tryd.type28]; rfl
theorem bytes28 : G.bytes 28 = 8 := by rw [bytes_eq Tryd.type28]; rfl
theorem kind31 : G.kind 31 = .sl 9 := kind_eq Tryd.type31 Tryd.underlying31
theorem size31 : G.size 31 = 1 := by rw [size_eq Tryd.type31]; rfl
theorem bytes31 : G.bytes 31 = 24 := by rw [bytes_eq Tryd.type31]; rfl
theorem kind40 : G.kind 40 = .st [22, 3, 3] := kind_eq Tryd.type40 Tryd.underlying40
theorem size40 : G.size 40 = 3 := by rw [size_eq Tryd.type40]; rfl
theorem bytes40 : G.bytes 40 = 40 := by rw [bytes_eq Tryd.type40]; rfl
theorem off40_0 : G.off 40 0 = 0 := by rw [off_eq (f := 0) Tryd.underlying40 rfl]; rfl
theorem off40_1 : G.off 40 1 = 1 := by rw [off_eq (f := 1) Tryd.underlying40 rfl]; rfl
theorem off40_2 : G.off 40 2 = 2 := by rw [off_eq (f := 2) Tryd.underlying40 rfl]; rfl
theorem kind56 : G.kind 56 = .st [5, 5] := kind_eq Tryd.type56 Tryd.underlying56
theorem size56 : G.size 56 = 2 := by rw [size_eq Tryd.type56]; rfl
theorem bytes56 : G.bytes 56 = 2 := by rw [bytes_eq Tryd.type56]; rfl
theorem off56_0 : G.off 56 0 = 0 := by rw [off_eq (f := 0) Tryd.underlying56 rfl]; rfl
theorem off56_1 : G.off 56 1 = 1 := by rw [off_eq (f := 1) Tryd.underlying56 rfl]; rfl
theorem kind58 : G.kind 58 = .int .u32 := kind_eq Tryd.type58 Tryd.underlying58
theorem size58 : G.size 58 = 1 := by rw [size_eq Tryd.type58]; rfl
theorem bytes58 : G.bytes 58 = 4 := by rw [bytes_eq Tryd.type58]; rfl
theorem kindOf3 : kindOf P 3 = .int .i64 := kindOf_eq Tryd.type3 Tryd.underlying3
theorem kindOf4 : kindOf P 4 = .bool := kindOf_eq Tryd.type4 Tryd.underlying4
theorem kindOf5 : kindOf P 5 = .int .u8 := kindOf_eq Tryd.type5 Tryd.underlying5
theorem kindOf9 : kindOf P 9 = .str := kindOf_eq Tryd.type9 Tryd.underlying9
theorem kindOf21 : kindOf P 21 = .int .i32 := kindOf_eq Tryd.type21 Tryd.underlying21
theorem kindOf22 : kindOf P 22 = .sl 5 := kindOf_eq Tryd.type22 Tryd.underlying22
theorem kindOf28 : kindOf P 28 = .ptr := kindOf_eq Tryd.type28 Tryd.underlying28
theorem kindOf31 : kindOf P 31 = .sl 9 := kindOf_eq Tryd.type31 Tryd.underlying31
theorem kindOf40 : kindOf P 40 = .st [22, 3, 3] := kindOf_eq Tryd.type40 Tryd.underlying40
theorem kindOf56 : kindOf P 56 = .st [5, 5] := kindOf_eq Tryd.type56 Tryd.underlying56
theorem kindOf58 : kindOf P 58 = .int .u32 := kindOf_eq Tryd.type58 Tryd.underlying58
theorem tagOf3 : tagOf P 3 = 0 := tagOf_no kindOf3 (by simp)
theorem tagOf4 : tagOf P 4 = 0 := tagOf_no kindOf4 (by simp)
theorem tagOf5 : tagOf P 5 = 0 := tagOf_no kindOf5 (by simp)
theorem tagOf9 : tagOf P 9 = 0 := tagOf_no kindOf9 (by simp)
theorem tagOf21 : tagOf P 21 = 0 := tagOf_no kindOf21 (by simp)
theorem tagOf22 : tagOf P 22 = 1 := tagOf_eq kindOf22 Tryd.type5
theorem tagOf28 : tagOf P 28 = 0 := tagOf_no kindOf28 (by simp)
theorem tagOf31 : tagOf P 31 = 1 := tagOf_eq kindOf31 Tryd.type9
theorem tagOf58 : tagOf P 58 = 0 := tagOf_no kindOf58 (by simp)
theorem zero3 : G.zero 3 = some (.int .i64 0) := zero_eq Tryd.type3 rfl rfl (by simp only [zread, zreads, zread1, kindOf3, tagOf3]; rfl)
theorem zero4 : G.zero 4 = some (.bool false) := zero_eq Tryd.type4 rfl rfl (by simp only [zread, zreads, zread1, kindOf4, tagOf4]; rfl)
theorem zero5 : G.zero 5 = some (.int .u8 0) := zero_eq Tryd.type5 rfl rfl (by simp only [zread, zreads, zread1, kindOf5, tagOf5]; rfl)
theorem zero9 : G.zero 9 = some (.str { data := #[] }) := zero_eq Tryd.type9 rfl rfl (by simp only [zread, zreads, zread1, kindOf9, tagOf9]; rfl)
theorem zero21 : G.zero 21 = some (.int .i32 0) := zero_eq Tryd.type21 rfl rfl (by simp only [zread, zreads, zread1, kindOf21, tagOf21]; rfl)
theorem zero22 : G.zero 22 = some (.lst true 1 []) := zero_eq Tryd.type22 rfl rfl (by simp only [zread, zreads, zread1, kindOf5, kindOf22, tagOf5, tagOf22]; rfl)
theorem zero31 : G.zero 31 = some (.lst true 1 []) := zero_eq Tryd.type31 rfl rfl (by simp only [zread, zreads, zread1, kindOf9, kindOf31, tagOf9, tagOf31]; rfl)
theorem zero40 : G.zero 40 = some (.agg [.lst true 1 [], .int .i64 0, .int .i64 0]) := zero_eq Tryd.type40 rfl rfl (by simp only [zread, zreads, zread1, kindOf3, kindOf5, kindOf22, kindOf40, tagOf3, tagOf5, tagOf22]; rfl)
theorem zero56 : G.zero 56 = some (.agg [.int .u8 0, .int .u8 0]) := zero_eq Tryd.type56 rfl rfl (by simp only [zread, zreads, zread1, kindOf5, kindOf56, tagOf5]; rfl)
theorem zero58 : G.zero 58 = some (.int .u32 0) := zero_eq Tryd.type58 rfl rfl (by simp only [zread, zreads, zread1, kindOf58, tagOf58]; rfl)
attribute [go_sem] kind3 size3 bytes3 kind4 size4 bytes4 kind5 size5 bytes5 kind9 size9 bytes9 kind21 size21 bytes21 kind22 size22 bytes22 kind28 size28 bytes28 kind31 size31 bytes31 kind40 size40 bytes40 off40_0 off40_1 off40_2 kind56 size56 bytes56 off56_0 off56_1 kind58 size58 bytes58 zero3 zero4
attribute [go_sem] zero5 zero9 zero21 zero22 zero31 zero40 zero56 zero58
end Go.Proofs.YtffpfjnakhpheaaDoor
namespace Go.Proofs.YtffpfjnakhpheaaDoor
open Go Go.RowKit Go.Bv
set_option linter.unusedSimpArgs false
set_option linter.unusedVariables false
set_option maxRecDepth 4000
theorem wrap_small {n : Int} (h : -9223372036854775808 ≤ n) (h' : n ≤ 9223372036854775807) : IntKind.i64.wrap n = n := by rw [IntKind.wrap_i64]; omega

/-! Lists, piece by piece -/
section
variable {α : Type}
def sumL (w : α → Nat) (f : List α) : Nat := (f.map w).sum
theorem sumL_append (w : α → Nat) (f g : List α) : sumL w (f ++ g) = sumL w f + sumL w g := by simp [sumL]
theorem sumL_succ (w : α → Nat) {f : List α} {i : Nat} {x : α} (h : f[i]? = some x) : sumL w (f.take (i + 1)) = sumL w (f.take i) + w x := by
  rw [List.take_add_one, h, sumL_append]; simp [sumL]
theorem sumL_le (w : α → Nat) (f : List α) (i : Nat) : sumL w (f.take i) ≤ sumL w f := by
  have := sumL_append w (f.take i) (f.drop i)
  rw [List.take_append_drop] at this
  omega
theorem sumL_mem (w : α → Nat) {f : List α} {i : Nat} {x : α} (h : f[i]? = some x) : w x ≤ sumL w f := by
  have := sumL_succ w h
  have := sumL_le w f (i + 1)
  omega
theorem sumL_zero (w : α → Nat) (h : ∀ x, w x = 0) (f : List α) : sumL w f = 0 := by
  induction f with
  | nil => rfl
  | cons x f ih => simp only [sumL, List.map_cons, List.sum_cons, h] at ih ⊢; omega
theorem w_le (w : α → Nat) {f : List α} {i : Nat} {x : α} {n : Nat} (h : f[i]? = some x) (hw : f.length + sumL w f ≤ n) : w x ≤ n := by
  have := sumL_mem w h
  omega
theorem sum10 {mw w : α → Nat} (h : ∀ x, mw x ≤ 10 * (1 + w x)) (f : List α) : sumL mw f ≤ 10 * (f.length + sumL w f) := by
  induction f with
  | nil => simp [sumL]
  | cons x f ih => have := h x; simp only [sumL, List.map_cons, List.sum_cons, List.length_cons] at ih ⊢; omega
variable (me : α → Int → α) (mw : α → Nat)
/-- All marked, in their order. -/
def mkL : List α → Int → List α
  | [], _ => []
  | x :: xs, k => me x k :: mkL xs (k + (mw x : Nat))
theorem mkL_len : ∀ (f : List α) (k : Int), (mkL me mw f k).length = f.length
  | [], _ => rfl
  | x :: f, k => by simp [mkL, mkL_len f]
theorem mkL_append : ∀ (f g : List α) (k : Int), mkL me mw (f ++ g) k = mkL me mw f k ++ mkL me mw g (k + (sumL mw f : Nat))
  | [], g, k => by simp [mkL, sumL]
  | x :: f, g, k => by
    simp only [List.cons_append, mkL, mkL_append f g]
    rw [show k + ((mw x : Nat) : Int) + ((sumL mw f : Nat) : Int) = k + ((sumL mw (x :: f) : Nat) : Int) by simp only [sumL, List.map_cons, List.sum_cons]; omega]
/-- The first i are marked. -/
def mkI (f : List α) (i : Nat) (k : Int) : List α := mkL me mw (f.take i) k ++ f.drop i
theorem mkI_zero (f : List α) (k : Int) : mkI me mw f 0 k = f := by simp [mkI, mkL]
theorem mkI_len (f : List α) (i : Nat) (k : Int) : (mkI me mw f i k).length = f.length := by
  simp only [mkI, List.length_append, mkL_len, List.length_take, List.length_drop]; omega
theorem mkI_all {f : List α} {i : Nat} (h : f.length ≤ i) {k : Int} : mkI me mw f i k = mkL me mw f k := by
  rw [mkI, List.take_of_length_le h, List.drop_of_length_le h, List.append_nil]
theorem mkI_at {f : List α} {i : Nat} {x : α} (h : f[i]? = some x) {k : Int} : (mkI me mw f i k)[i]? = some x := by
  have hi := (List.getElem?_eq_some_iff.1 h).1
  have hl : (mkL me mw (f.take i) k).length = i := by rw [mkL_len, List.length_take]; omega
  unfold mkI
  rw [List.getElem?_append_right (by omega), hl, Nat.sub_self, List.getElem?_drop]
  simpa using h
theorem mkI_set {f : List α} {i : Nat} {x : α} (h : f[i]? = some x) {k : Int} : (mkI me mw f i k).set i (me x (k + (sumL mw (f.take i) : Nat))) = mkI me mw f (i + 1) k := by
  have hi := (List.getElem?_eq_some_iff.1 h).1
  have hx := (List.getElem?_eq_some_iff.1 h).2
  have hl : (mkL me mw (f.take i) k).length = i := by rw [mkL_len, List.length_take]; omega
  unfold mkI
  rw [List.set_append_right _ _ (by omega), hl, Nat.sub_self, List.take_add_one, h, Option.toList_some, mkL_append, show f.drop i = x :: f.drop (i + 1) by rw [List.drop_eq_getElem_cons hi, hx]]
  simp [mkL]
theorem mkL_at {f : List α} {i : Nat} {x : α} (h : f[i]? = some x) (k : Int) : (mkL me mw f k)[i]? = some (me x (k + (sumL mw (f.take i) : Nat))) := by
  have hi := (List.getElem?_eq_some_iff.1 h).1
  have hl : (mkL me mw (f.take i) k).length = i := by rw [mkL_len, List.length_take]; omega
  conv => lhs; rw [← List.take_append_drop i f]
  rw [mkL_append, List.getElem?_append_right (by omega), hl, Nat.sub_self, List.drop_eq_getElem_cons hi]
  simp [mkL, (List.getElem?_eq_some_iff.1 h).2]
/-- The first i are there, the others are zero. -/
def fillL (enc : α → AV) (z : AV) (f : List α) (i : Nat) : List AV := (f.take i).map enc ++ List.replicate (f.length - i) z
theorem fillL_at (enc : α → AV) (z : AV) {f : List α} {i : Nat} (h : i < f.length) : (fillL enc z f i)[i]? = some z := by
  unfold fillL
  rw [List.getElem?_append_right (by simp; omega), List.getElem?_replicate, if_pos (by simp; omega)]
theorem fillL_set (enc : α → AV) (z : AV) {f : List α} {i : Nat} {t : α} (h : f[i]? = some t) : (fillL enc z f i).set i (enc t) = fillL enc z f (i + 1) := by
  have hi := (List.getElem?_eq_some_iff.1 h).1
  have ht := (List.getElem?_eq_some_iff.1 h).2
  unfold fillL
  rw [List.set_append_right _ _ (by simp; omega)]
  rw [← List.take_append_getElem hi, ht]
  have e : f.length - i = (f.length - (i + 1)) + 1 := by omega
  have e2 : i - ((f.take i).map enc).length = 0 := by simp; omega
  rw [e2, e, List.replicate_succ]
  simp
theorem fillL_all (enc : α → AV) (z : AV) {f : List α} {i : Nat} (h : f.length ≤ i) : fillL enc z f i = f.map enc := by
  unfold fillL
  rw [List.take_of_length_le h, Nat.sub_eq_zero_of_le h]; simp
theorem take_map_len {β : Type} (f : List α) (g : α → β) : List.take f.length (f.map g) = f.map g := List.take_of_length_le (by simp)
theorem ashs_map {g h : α → AV} (H : ∀ x, ash (g x) = h x) (f : List α) : ashs (f.map g) = f.map h := by
  induction f with
  | nil => rfl
  | cons t f ih => simp only [List.map_cons, ashs, ih, H]
theorem plAs_map {g : α → AV} (H : ∀ x, plA (g x) = true) (f : List α) : plAs (f.map g) = true := by
  induction f with
  | nil => rfl
  | cons t f ih => simp only [List.map_cons, plAs, ih, H, Bool.and_self]
theorem leafAs_map {g : α → AV} (H : ∀ x, leafA (g x) = true) (f : List α) : leafAs (f.map g) = true := by
  induction f with
  | nil => rfl
  | cons t f ih => simp only [List.map_cons, leafAs, ih, H, Bool.and_self]
theorem noShs_map {g : α → AV} (H : ∀ x, noSh (g x) = true) (f : List α) : noShs (f.map g) = true := by
  induction f with
  | nil => rfl
  | cons t f ih => simp only [List.map_cons, noShs, ih, H, Bool.and_self]
theorem alen_map {g : α → AV} {n : Nat} (H : ∀ x, alen (g x) = n) (f : List α) : ((f.map g).all fun u => alen u == n) = true := by
  induction f with
  | nil => rfl
  | cons t f ih => simp only [List.map_cons, List.all_cons, ih, H, beq_self_eq_true, Bool.and_self]
end
attribute [go_sem] take_map_len
theorem plAs_set : ∀ {M : List AV} {i : Nat} {v : AV}, plAs M = true → plA v = true → plAs (M.set i v) = true
  | [], _, _, _, _ => rfl
  | x :: M, 0, v, h, hv => by simp only [plAs, Bool.and_eq_true] at h; simp [plAs, h.2, hv]
  | x :: M, i + 1, v, h, hv => by simp only [plAs, Bool.and_eq_true] at h; simp [plAs, h.1, plAs_set h.2 hv]
attribute [go_sem] plAs_set

/-- What is left of a room behind a weight; -1: it is too small. -/
def szW (w : Nat) (left : Int) : Int := if (w : Int) ≤ left then left - w else -1
theorem szW_le {w : Nat} {l n : Int} (h : l ≤ n) (hn : 0 ≤ n := by omega) : szW w l ≤ n := by unfold szW; split <;> omega
theorem szW_cases (w : Nat) (l : Int) : ((w : Int) ≤ l ∧ szW w l = l - w) ∨ (¬ (w : Int) ≤ l ∧ szW w l = -1) := by
  unfold szW; split <;> simp_all
/-! The marks -/
/-- The digits of k ahead of a text. -/
def mDig (k : Nat) (out : ByteArray) : ByteArray :=
  if h : k = 0 then out else mDig (k / 10) (⟨#[UInt8.ofNat (48 + k % 10)]⟩ ++ out)
termination_by k
decreasing_by omega
def mText (k : Int) : ByteArray := if k ≤ 0 then { data := #[109, 48] } else { data := #[109] } ++ mDig k.toNat { data := #[] }
def mBool (k : Int) : Bool := Int.tmod k 3 == 0
/-- The same text. -/
def sameS (a b : ByteArray) : Bool := a.toList == b.toList

/-! The types -/
end Go.Proofs.YtffpfjnakhpheaaDoor
namespace Go.Proofs.YtffpfjnakhpheaaDoor
open Go Go.RowKit Go.Bv
set_option linter.unusedSimpArgs false
set_option linter.unusedVariables false
set_option maxRecDepth 4000
theorem c_spec_l1In (x a b : Int) : Sound P 27 [.int .i64 x, .int .i64 a, .int .i64 b] (.bool (decide (x ≥ a) && decide (x ≤ b))) := by
  refine snd_b hT Tryd.func27 Tryd.results27 Tryd.ntmps27 ?_
  repeat' (first | refine one ?_ | (refine two ?_ ?_; all_goals (intro h; try simp only [Bool.not_eq_true', Bool.not_eq_false', reduceCtorEq] at h)) | fail)
  all_goals ((simp only [go_sem, *]); first | done | simp [*])
noncomputable abbrev ic_spec_l1In := Con.mk (P := P) (f := 27) Tryd.call27 @c_spec_l1In
attribute [instance] ic_spec_l1In
theorem c_impl_within (x a b : Int) : Sound P 22 [.int .i64 x, .int .i64 a, .int .i64 b] (.bool (decide (x ≥ a) && decide (x ≤ b))) := by
  refine snd_b hT Tryd.func22 Tryd.results22 Tryd.ntmps22 ?_
  repeat' (first | refine one ?_ | (refine two ?_ ?_; all_goals (intro h; try simp only [Bool.not_eq_true', Bool.not_eq_false', reduceCtorEq] at h)) | fail)
  all_goals ((simp only [go_sem, *]); first | done | simp [*])

noncomputable abbrev ic_impl_within := Con.mk (P := P) (f := 22) Tryd.call22 @c_impl_within
attribute [instance] ic_impl_within
/-- How many a term takes from the stack. -/
def takesI (o : Int) : Int := if o = 8 then 1 else if o = 9 ∨ o = 10 then 2 else 0
end Go.Proofs.YtffpfjnakhpheaaDoor
namespace Go.Proofs.YtffpfjnakhpheaaDoor
open Go Go.RowKit Go.Bv
set_option linter.unusedSimpArgs false
set_option linter.unusedVariables false
set_option maxRecDepth 4000

def letB (b : UInt8) : Bool := !(decide ((b.toNat : Int) < 97)) && !(decide ((b.toNat : Int) > 122))
def letters (s : ByteArray) : Bool := s.data.toList.all letB
def partB (s : ByteArray) : Bool := decide ((s.size : Int) ≥ 1) && decide ((s.size : Int) ≤ 10) && letters s
theorem letters_at {s : ByteArray} {i : Nat} {b : UInt8} (h : s[i]? = some b) (hl : letters s = true) : letB b = true := by
  unfold letters at hl
  rw [List.all_eq_true] at hl
  refine hl b ?_
  have : s.data[i]? = some b := by
    rw [← h]; rfl
  exact Array.mem_toList_iff.2 (Array.mem_of_getElem? this)
theorem letters_of {s : ByteArray} (h : ∀ j b, j < s.size → s[j]? = some b → letB b = true) : letters s = true := by
  unfold letters
  rw [List.all_eq_true]
  intro b hb
  obtain ⟨j, hj, rfl⟩ := List.getElem_of_mem hb
  have hj' : j < s.size := by simpa using hj
  refine h j _ hj' ?_
  have : s[j]? = s.data[j]? := rfl
  rw [this, Array.getElem?_eq_getElem hj']
  simp
theorem byte_at {s : ByteArray} {i : Nat} (h : i < s.size) : ∃ b, s[i]? = some b := ⟨s[i], by simp [h]⟩

def Upto (s : ByteArray) (i : Nat) : Prop := ∀ j b, j < i → s[j]? = some b → letB b = true
theorem Upto.succ {s : ByteArray} {i : Nat} {b : UInt8} (h : Upto s i) (hb : s[i]? = some b) (hl : letB b = true) : Upto s (i + 1) := by
  intro j c hj hc
  by_cases e : j = i
  · subst e; rw [hb] at hc; cases hc; exact hl
  · exact h j c (by omega) hc
theorem Upto.all {s : ByteArray} {i : Nat} (h : Upto s i) (hi : s.size ≤ i) : letters s = true := letters_of fun j b hj hb => h j b (by omega) hb
theorem part_not {s : ByteArray} {i : Nat} {b : UInt8} (hb : s[i]? = some b) (hl : letB b = false) : letters s = false := by
  cases h : letters s with
  | false => rfl
  | true => rw [letters_at hb h] at hl; cases hl
end Go.Proofs.YtffpfjnakhpheaaDoor
