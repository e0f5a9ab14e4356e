/- Contracts of the law's helpers: the text of a mark. Contracts of the law's helpers: Bool. Contracts of the law's helpers: String. Contracts of the law's helpers: Int. Contracts: lists of numbers. -/
import Derived.Test.YtbeijohahflkeaaKA
namespace Go.Proofs.Ytbeijohahflkeaa
open Go Go.RowKit Go.Bv
set_option linter.unusedSimpArgs false
set_option linter.unusedVariables false
set_option maxRecDepth 4000
end Go.Proofs.Ytbeijohahflkeaa
namespace Go.Proofs.Ytbeijohahflkeaa
open Go Go.RowKit Go.Bv
set_option linter.unusedSimpArgs false
set_option linter.unusedVariables false
set_option maxRecDepth 4000
set_option maxHeartbeats 1000000
def encBool (x : Bool) : AV := .bool x
def wBool (x : Bool) : Nat := 0
def okBool (x : Bool) : Prop := True
def meBool (_ : Bool) (k : Int) : Bool := mBool (k)
def mwBool (_ : Bool) : Nat := 1
theorem mw10Bool (x : Bool) : mwBool x ≤ 10 * (1 + wBool x) := by unfold mwBool; omega
def wBoolS (f : List Bool) : Nat := f.length + sumL wBool f
def okBoolS (f : List Bool) : Prop := f.length < 4611686018427387904 ∧ ∀ x ∈ f, okBool x
def mkBoolS (f : List Bool) (k : Int) : List Bool := mkL meBool mwBool f k
def mwBoolS (f : List Bool) : Nat := sumL mwBool f
theorem mw10BoolS (f : List Bool) : mwBoolS f ≤ 10 * wBoolS f := sum10 mw10Bool f
theorem ashs_Bool (f : List Bool) : ashs (f.map encBool) = f.map encBool := ashs_map (g := encBool) (h := encBool) (fun x => rfl) f
theorem plAs_Bool (f : List Bool) : plAs (f.map encBool) = true := plAs_map (g := encBool) (fun x => rfl) f
theorem alen_Bool (f : List Bool) : ((f.map encBool).all fun u => alen u == 1) = true := alen_map (g := encBool) (fun x => rfl) f
theorem noShs_Bool (f : List Bool) : noShs (f.map encBool) = true := noShs_map (g := encBool) (fun x => rfl) f
theorem leafAs_Bool (f : List Bool) : leafAs (f.map encBool) = true := leafAs_map (g := encBool) (fun x => rfl) f
attribute [go_sem] ashs_Bool plAs_Bool alen_Bool noShs_Bool leafAs_Bool
def zeroBool : AV := .bool false
end Go.Proofs.Ytbeijohahflkeaa
namespace Go.Proofs.Ytbeijohahflkeaa
open Go Go.RowKit Go.Bv
set_option linter.unusedSimpArgs false
set_option linter.unusedVariables false
set_option maxRecDepth 4000
set_option maxHeartbeats 1000000
def encString (x : ByteArray) : AV := .str x
def wString (x : ByteArray) : Nat := x.size
def okString (x : ByteArray) : Prop := x.size < 4611686018427387904
def meString (_ : ByteArray) (k : Int) : ByteArray := mText (k)
def mwString (_ : ByteArray) : Nat := 1
theorem mw10String (x : ByteArray) : mwString x ≤ 10 * (1 + wString x) := by unfold mwString; omega
def wStringS (f : List ByteArray) : Nat := f.length + sumL wString f
def okStringS (f : List ByteArray) : Prop := f.length < 4611686018427387904 ∧ ∀ x ∈ f, okString x
def mkStringS (f : List ByteArray) (k : Int) : List ByteArray := mkL meString mwString f k
def mwStringS (f : List ByteArray) : Nat := sumL mwString f
theorem mw10StringS (f : List ByteArray) : mwStringS f ≤ 10 * wStringS f := sum10 mw10String f
theorem ashs_String (f : List ByteArray) : ashs (f.map encString) = f.map encString := ashs_map (g := encString) (h := encString) (fun x => rfl) f
theorem plAs_String (f : List ByteArray) : plAs (f.map encString) = true := plAs_map (g := encString) (fun x => rfl) f
theorem alen_String (f : List ByteArray) : ((f.map encString).all fun u => alen u == 1) = true := alen_map (g := encString) (fun x => rfl) f
theorem noShs_String (f : List ByteArray) : noShs (f.map encString) = true := noShs_map (g := encString) (fun x => rfl) f
theorem leafAs_String (f : List ByteArray) : leafAs (f.map encString) = true := leafAs_map (g := encString) (fun x => rfl) f
attribute [go_sem] ashs_String plAs_String alen_String noShs_String leafAs_String
def zeroString : AV := .str { data := #[] }
end Go.Proofs.Ytbeijohahflkeaa
namespace Go.Proofs.Ytbeijohahflkeaa
open Go Go.RowKit Go.Bv
set_option linter.unusedSimpArgs false
set_option linter.unusedVariables false
set_option maxRecDepth 4000
set_option maxHeartbeats 1000000
/-! The walks that end. -/
theorem wGlInt13_0 {p : Prop} (h : p := by
  repeat' (first | refine one ?_ | (refine two ?_ ?_; all_goals (intro h; try simp only [Bool.not_eq_true', Bool.not_eq_false', reduceCtorEq] at h)) | fail)
  all_goals ((simp only [go_sem, *]); first | done | rfl)) : p := h
theorem wGlInt15_0 {p : Prop} (h : p := by
  exact wk) : p := h
def encInt (x : Int) : AV := .int .i64 x
def wInt (x : Int) : Nat := 0
def okInt (x : Int) : Prop := True
def meInt (_ : Int) (k : Int) : Int := k
def mwInt (_ : Int) : Nat := 1
theorem mw10Int (x : Int) : mwInt x ≤ 10 * (1 + wInt x) := by unfold mwInt; omega
def wIntS (f : List Int) : Nat := f.length + sumL wInt f
def okIntS (f : List Int) : Prop := f.length < 4611686018427387904 ∧ ∀ x ∈ f, okInt x
def mkIntS (f : List Int) (k : Int) : List Int := mkL meInt mwInt f k
def mwIntS (f : List Int) : Nat := sumL mwInt f
theorem mw10IntS (f : List Int) : mwIntS f ≤ 10 * wIntS f := sum10 mw10Int f
theorem ashs_Int (f : List Int) : ashs (f.map encInt) = f.map encInt := ashs_map (g := encInt) (h := encInt) (fun x => rfl) f
theorem plAs_Int (f : List Int) : plAs (f.map encInt) = true := plAs_map (g := encInt) (fun x => rfl) f
theorem alen_Int (f : List Int) : ((f.map encInt).all fun u => alen u == 1) = true := alen_map (g := encInt) (fun x => rfl) f
theorem noShs_Int (f : List Int) : noShs (f.map encInt) = true := noShs_map (g := encInt) (fun x => rfl) f
theorem leafAs_Int (f : List Int) : leafAs (f.map encInt) = true := leafAs_map (g := encInt) (fun x => rfl) f
attribute [go_sem] ashs_Int plAs_Int alen_Int noShs_Int leafAs_Int
def zeroInt : AV := .int .i64 0
theorem c_laws_szIntS (f : List Int) (left : Int) (hb : okIntS f) (h0 : decide (left < 0) = false) (h1 : left ≤ 1048576) : Sound P 17 [.lst false 1 (f.map encInt), .int .i64 left] (.int .i64 (szW (wIntS f) left)) := by
  have hl := hb.1
  have hp : 0 ≤ left := by simpa using h0
  have hw : IntKind.i64.wrap (left - f.length) = left - f.length := by rw [wrap_small] <;> omega
  have hws : wIntS f = f.length := by simp [wIntS, sumL_zero wInt (fun _ => rfl)]
  rw [hws]
  refine snd_b hT Try.func17 Try.results17 Try.ntmps17 ?_
  repeat' (first | refine one ?_ | (refine two ?_ ?_; all_goals (intro h; try simp only [Bool.not_eq_true', Bool.not_eq_false', reduceCtorEq] at h)) | fail)
  all_goals ((simp only [go_sem, *]); first | done | (simp only [decide_eq_true_eq, decide_eq_false_iff_not, szW] at *; (first | done | (repeat' split) <;> first | rfl | omega | (simp_all; done) | (simp_all; omega))))
noncomputable abbrev ic_laws_szIntS := Con.mk (P := P) (f := 17) Try.call17 @c_laws_szIntS
attribute [instance] ic_laws_szIntS
theorem c_laws_toIntS (f : List Int) (hw : wIntS f ≤ 4194304) : Sound P 23 [.lst false 1 (f.map encInt)] (.lst true 1 (f.map encInt)) := by
  have hl : f.length ≤ 4194304 := Nat.le_trans (Nat.le_add_right _ _) hw
  refine snd_b hT Try.func23 Try.results23 Try.ntmps23 ?_
  repeat' (first | refine one ?_ | (refine two ?_ ?_; all_goals (intro h; try simp only [Bool.not_eq_true', Bool.not_eq_false', reduceCtorEq] at h)) | fail)
  refine aw_loop [1, 5, 6, 8, 9, 10, 11, 12, 13, 14, 15, 16, 17, 18, 19, 20, 21] (fun n S => ∃ i : Nat, n = f.length - i ∧ i ≤ f.length ∧ S = [.lst false 1 (f.map encInt), .undef, .lst true 1 [], .ref 7 [] 0 f.length, .int .i64 i, .undef, .undef, .lst true 1 (fillL encInt zeroInt f i), .undef, .undef, .undef, .undef, .undef, .undef, .undef, .undef, .undef, .undef, .undef, .undef, .undef, .undef]) f.length ?_ ?_
  · refine ⟨0, by simp, by omega, ?_⟩
    simp only [clr, go_sem]
    first | done | simp [fillL, zeroInt]
  · rintro n S ⟨i, hn, hi, rfl⟩
    have hwi : IntKind.i64.wrap ((i : Int) + 1) = ((i + 1 : Nat) : Int) := by rw [wrap_small] <;> omega
    by_cases hlt : i < f.length
    · have hd : (i : Int) < (f.length : Int) := by omega
      obtain ⟨x, hx⟩ : ∃ x, f[i]? = some x := ⟨f[i], by simp [hlt]⟩
      have hwx : wInt x ≤ 4194304 := w_le wInt hx hw
      have hfi : (fillL encInt zeroInt f i)[i]? = some (.int .i64 0) := fillL_at encInt zeroInt hlt
      have hfs : (fillL encInt zeroInt f i).set i (.int .i64 x) = fillL encInt zeroInt f (i + 1) := fillL_set encInt zeroInt hx
      generalize fillL encInt zeroInt f i = M at *
      clear hw
      (all_goals (have E0 := @encInt.eq_1))
      repeat' (first | refine one ?_ | (refine two ?_ ?_; all_goals (intro h; try simp only [Bool.not_eq_true', Bool.not_eq_false', reduceCtorEq] at h)) | fail)
      all_goals (try clear E0)
      refine ⟨f.length - (i + 1), by omega, i + 1, rfl, by omega, ?_⟩
      simp only [clr, go_sem]
    · have hd : decide ((i : Int) < (f.length : Int)) = false := by simp; omega
      have hall : fillL encInt zeroInt f i = f.map encInt := fillL_all encInt zeroInt (by omega)
      rw [hall]
      clear hall
      repeat' (first | refine one ?_ | (refine two ?_ ?_; all_goals (intro h; try simp only [Bool.not_eq_true', Bool.not_eq_false', reduceCtorEq] at h)) | fail)
      all_goals (simp only [go_sem, *])
noncomputable abbrev ic_laws_toIntS := Con.mk (P := P) (f := 23) Try.call23 @c_laws_toIntS
attribute [instance] ic_laws_toIntS
theorem c_laws_eqIntS (f : List Int) (hw : wIntS f ≤ 4194304) : Sound P 11 [.lst false 1 (f.map encInt), .lst false 1 (f.map encInt)] (.bool true) := by
  have hl : f.length ≤ 4194304 := Nat.le_trans (Nat.le_add_right _ _) hw
  refine snd_b hT Try.func11 Try.results11 Try.ntmps11 ?_
  repeat' (first | refine one ?_ | (refine two ?_ ?_; all_goals (intro h; try simp only [Bool.not_eq_true', Bool.not_eq_false', reduceCtorEq] at h)) | fail)
  refine aw_loop [2, 3, 6, 7, 8, 9, 10, 11, 12, 13, 14, 15, 16, 17, 18, 19, 20, 21, 22, 23, 24, 25] (fun n S => ∃ i : Nat, n = f.length - i ∧ i ≤ f.length ∧ S = [.lst false 1 (f.map encInt), .lst false 1 (f.map encInt), .undef, .undef, .bool false, .int .i64 i, .undef, .undef, .undef, .undef, .undef, .undef, .undef, .undef, .undef, .undef, .undef, .undef, .undef, .undef, .undef, .undef, .undef, .undef, .undef, .undef]) f.length ?_ ?_
  · refine ⟨0, by simp, by omega, ?_⟩
    simp only [clr, go_sem]
    first | done | rfl
  · rintro n S ⟨i, hn, hi, rfl⟩
    have hwi : IntKind.i64.wrap ((i : Int) + 1) = ((i + 1 : Nat) : Int) := by rw [wrap_small] <;> omega
    by_cases hlt : i < f.length
    · have hd : decide ((i : Int) < (f.length : Int)) = true := by simp [hlt]
      obtain ⟨x, hx⟩ : ∃ x, f[i]? = some x := ⟨f[i], by simp [hlt]⟩
      have hwx : wInt x ≤ 4194304 := w_le wInt hx hw
      clear hw
      (all_goals (have E0 := @encInt.eq_1))
      repeat' (first | refine one ?_ | (refine two ?_ ?_; all_goals (intro h; try simp only [Bool.not_eq_true', Bool.not_eq_false', reduceCtorEq] at h)) | fail)
      all_goals (try clear E0)
      refine ⟨f.length - (i + 1), by omega, i + 1, rfl, by omega, ?_⟩
      simp only [clr, go_sem]
    · have hd : decide ((i : Int) < (f.length : Int)) = false := by simp; omega
      repeat' (first | refine one ?_ | (refine two ?_ ?_; all_goals (intro h; try simp only [Bool.not_eq_true', Bool.not_eq_false', reduceCtorEq] at h)) | fail)
      all_goals (simp only [go_sem, *])
noncomputable abbrev ic_laws_eqIntS := Con.mk (P := P) (f := 11) Try.call11 @c_laws_eqIntS
attribute [instance] ic_laws_eqIntS
-- LENT m_laws_markIntS 0
theorem m_laws_markIntS (f : List Int) (k : Int) (hw : wIntS f ≤ 4194304) (h0 : 0 ≤ k) (h1 : k + (mwIntS f : Nat) ≤ 1099511627776) :
    SoundM P 13 [.lst true 1 (f.map encInt), .int .i64 k] 0 (.int .i64 (k + (mwIntS f : Nat))) (.lst true 1 ((mkIntS f k).map encInt)) := by
  have hl : f.length ≤ 4194304 := Nat.le_trans (Nat.le_add_right _ _) hw
  have h10 := mw10IntS f
  refine snd_M hT Try.func13 Try.results13 Try.ntmps13 ?_
  repeat' (first | refine one ?_ | (refine two ?_ ?_; all_goals (intro h; try simp only [Bool.not_eq_true', Bool.not_eq_false', reduceCtorEq] at h)) | fail)
  refine aw_loop [2, 3, 6, 7, 8, 9, 10, 11, 12, 13, 14, 15, 16, 17, 18] (fun n S => ∃ i : Nat, n = f.length - i ∧ i ≤ f.length ∧ S = [.lst true 1 ((mkI meInt mwInt f i k).map encInt), .int .i64 (k + (sumL mwInt (f.take i) : Nat)), .undef, .undef, .int .i64 0, .int .i64 i, .undef, .undef, .undef, .undef, .undef, .undef, .undef, .undef, .undef, .undef, .undef, .undef, .undef]) f.length ?_ ?_
  · refine ⟨0, by simp, by omega, ?_⟩
    simp only [clr, go_sem]
    first | done | simp [mkI_zero, sumL]
  · rintro n S ⟨i, hn, hi, rfl⟩
    have hwi : IntKind.i64.wrap ((i : Int) + 1) = ((i + 1 : Nat) : Int) := by rw [wrap_small] <;> omega
    by_cases hlt : i < f.length
    · have hd : (i : Int) < (f.length : Int) := by omega
      obtain ⟨x, hx⟩ : ∃ x, f[i]? = some x := ⟨f[i], by simp [hlt]⟩
      have hwx : wInt x ≤ 4194304 := w_le wInt hx hw
      have hs := sumL_succ mwInt hx
      have hle := sumL_le mwInt f (i + 1)
      simp only [mwIntS] at h10 h1
      have hlen : ((mkI meInt mwInt f i k).map encInt).length = f.length := by rw [List.length_map, mkI_len]
      have hat : ((mkI meInt mwInt f i k).map encInt)[i]? = some (.int .i64 x) := by rw [List.getElem?_map, mkI_at _ _ hx]; rfl
      have hset : ((mkI meInt mwInt f i k).map encInt).set i (encInt (meInt x (k + (sumL mwInt (f.take i) : Nat)))) = (mkI meInt mwInt f (i + 1) k).map encInt := by rw [← List.map_set, mkI_set _ _ hx]
      have hil : i < ((mkI meInt mwInt f i k).map encInt).length := by omega
      have s1 : ∀ v, (((mkI meInt mwInt f i k).map encInt).set i v)[i]? = some v := fun v => List.getElem?_set_self hil
      have hpM : plAs ((mkI meInt mwInt f i k).map encInt) = true := plAs_Int _
      generalize (mkI meInt mwInt f i k).map encInt = M at *
      obtain ⟨k0, hk0⟩ : ∃ k0 : Int, k0 = k + (sumL mwInt (f.take i) : Nat) := ⟨_, rfl⟩
      rw [← hk0] at hset ⊢
      obtain ⟨k1, hk1⟩ : ∃ k1 : Int, k1 = k0 + 1 := ⟨_, rfl⟩
      have hend : k + (sumL mwInt (f.take (i + 1)) : Nat) = k1 := by rw [hs]; simp only [mwInt]; omega
      have hk1b : k1 ≤ 1099511627776 := by omega
      have hwk1 : IntKind.i64.wrap (k0 + 1) = k1 := by rw [wrap_small] <;> omega
      have hset2 : M.set i (.int .i64 k0) = (mkI meInt mwInt f (i + 1) k).map encInt := by
        rw [← hset]; congr 1 <;> (simp only [encInt, meInt]; first | done | (subst_vars; rfl))
      clear hset h10 hw hs hle hk0 hk1
      (all_goals (have E0 := @encInt.eq_1))
      (all_goals (have E1 := @List.set_set AV))
      repeat' (first | refine one ?_ | (refine two ?_ ?_; all_goals (intro h; try simp only [Bool.not_eq_true', Bool.not_eq_false', reduceCtorEq] at h)) | fail)
      all_goals (try clear E0 E1)
      refine ⟨f.length - (i + 1), by omega, i + 1, rfl, by omega, ?_⟩
      simp only [clr, go_sem, *]
    · have hd : decide ((i : Int) < (f.length : Int)) = false := by simp; omega
      have hall : mkI meInt mwInt f i k = mkIntS f k := mkI_all _ _ (by omega)
      have ht : f.take i = f := List.take_of_length_le (by omega)
      have hlen : (mkIntS f k).length = f.length := mkL_len _ _ _ _
      rw [hall, ht]
      clear hall ht
      exact wGlInt13_0
noncomputable abbrev im_laws_markIntS := ConL.mk (P := P) (f := 13) (t := 0) Try.call13 @m_laws_markIntS
attribute [instance] im_laws_markIntS
theorem c_laws_heldIntS (f : List Int) (k : Int) (hw : wIntS f ≤ 4194304) (h0 : 0 ≤ k) (h1 : k + (mwIntS f : Nat) ≤ 1099511627776) :
    Sound P 15 [.lst false 1 ((mkIntS f k).map encInt), .int .i64 k] (.int .i64 (k + (mwIntS f : Nat))) := by
  have hl : f.length ≤ 4194304 := Nat.le_trans (Nat.le_add_right _ _) hw
  have h10 := mw10IntS f
  have hlen : (mkIntS f k).length = f.length := mkL_len _ _ _ _
  refine snd_b hT Try.func15 Try.results15 Try.ntmps15 ?_
  repeat' (first | refine one ?_ | (refine two ?_ ?_; all_goals (intro h; try simp only [Bool.not_eq_true', Bool.not_eq_false', reduceCtorEq] at h)) | fail)
  refine aw_loop [2, 3, 6, 7, 8, 9, 10, 11, 12, 13, 14, 15, 16, 17, 18, 19, 20] (fun n S => ∃ i : Nat, n = f.length - i ∧ i ≤ f.length ∧ S = [.lst false 1 ((mkIntS f k).map encInt), .int .i64 (k + (sumL mwInt (f.take i) : Nat)), .undef, .undef, .int .i64 0, .int .i64 i, .undef, .undef, .undef, .undef, .undef, .undef, .undef, .undef, .undef, .undef, .undef, .undef, .undef, .undef, .undef]) f.length ?_ ?_
  · refine ⟨0, by simp, by omega, ?_⟩
    simp only [clr, go_sem]
    first | done | simp [sumL]
  · rintro n S ⟨i, hn, hi, rfl⟩
    have hwi : IntKind.i64.wrap ((i : Int) + 1) = ((i + 1 : Nat) : Int) := by rw [wrap_small] <;> omega
    by_cases hlt : i < f.length
    · have hd : decide ((i : Int) < (f.length : Int)) = true := by simp [hlt]
      obtain ⟨x, hx⟩ : ∃ x, f[i]? = some x := ⟨f[i], by simp [hlt]⟩
      have hwx : wInt x ≤ 4194304 := w_le wInt hx hw
      have hs := sumL_succ mwInt hx
      have hle := sumL_le mwInt f (i + 1)
      simp only [mwIntS] at h10 h1
      have hat : (mkIntS f k)[i]? = some (meInt x (k + (sumL mwInt (f.take i) : Nat))) := mkL_at _ _ hx k
      obtain ⟨k0, hk0⟩ : ∃ k0 : Int, k0 = k + (sumL mwInt (f.take i) : Nat) := ⟨_, rfl⟩
      rw [← hk0] at hat ⊢
      obtain ⟨k1, hk1⟩ : ∃ k1 : Int, k1 = k0 + 1 := ⟨_, rfl⟩
      have hend : k + (sumL mwInt (f.take (i + 1)) : Nat) = k1 := by rw [hs]; simp only [mwInt]; omega
      have hwk1 : IntKind.i64.wrap (k0 + 1) = k1 := by rw [wrap_small] <;> omega
      have hme : meInt x k0 = k0 := by simp only [meInt]; first | done | (subst_vars; rfl)
      rw [hme] at hat
      clear h10 hw hme hs hle hk0 hk1
      (all_goals (have E0 := @encInt.eq_1))
      repeat' (first | refine one ?_ | (refine two ?_ ?_; all_goals (intro h; try simp only [Bool.not_eq_true', Bool.not_eq_false', reduceCtorEq] at h)) | fail)
      all_goals (try clear E0)
      refine ⟨f.length - (i + 1), by omega, i + 1, rfl, by omega, ?_⟩
      simp only [clr, go_sem, *]
    · have hd : decide ((i : Int) < (f.length : Int)) = false := by simp; omega
      have ht : f.take i = f := List.take_of_length_le (by omega)
      rw [ht]
      clear ht
      exact wGlInt15_0
noncomputable abbrev ic_laws_heldIntS := Con.mk (P := P) (f := 15) Try.call15 @c_laws_heldIntS
attribute [instance] ic_laws_heldIntS
end Go.Proofs.Ytbeijohahflkeaa
namespace Go.Proofs.Ytbeijohahflkeaa
open Go Go.RowKit Go.Bv
set_option linter.unusedSimpArgs false
set_option linter.unusedVariables false
set_option maxRecDepth 4000
set_option maxHeartbeats 1000000

/-- Where it first stands; -1: nowhere. -/
def idxP {α : Type} (p : α → Bool) (f : List α) : Int := match f.findIdx? p with | some i => i | none => -1
theorem idxP_none {α : Type} {p : α → Bool} {f : List α} {i : Nat} (hi : f.length ≤ i) (h : ∀ j x, j < i → f[j]? = some x → p x = false) : idxP p f = -1 := by
  unfold idxP
  have : f.findIdx? p = none := by
    rw [List.findIdx?_eq_none_iff]
    intro x hx
    obtain ⟨j, hj, rfl⟩ := List.getElem_of_mem hx
    exact h j _ (by omega) (List.getElem?_eq_getElem hj)
  rw [this]
theorem idxP_some {α : Type} {p : α → Bool} {f : List α} {i : Nat} {x : α} (hx : f[i]? = some x) (hp : p x = true) (h : ∀ j x, j < i → f[j]? = some x → p x = false) : idxP p f = i := by
  unfold idxP
  have hi := (List.getElem?_eq_some_iff.1 hx).1
  have hxe := (List.getElem?_eq_some_iff.1 hx).2
  have : f.findIdx? p = some i := by
    rw [List.findIdx?_eq_some_iff_getElem]
    exact ⟨hi, by rw [hxe, hp], fun j hj => by rw [h j _ hj (List.getElem?_eq_getElem (by omega))]; simp⟩
  rw [this]
theorem idxP_ge {α : Type} (p : α → Bool) (f : List α) : decide (idxP p f ≥ 0) = f.any p := by
  unfold idxP
  cases h : f.findIdx? p with
  | none =>
    rw [List.findIdx?_eq_none_iff] at h
    have : f.any p = false := by rw [List.any_eq_false]; intro x hx; simp [h x hx]
    rw [this]; decide
  | some i =>
    obtain ⟨hi, hp, _⟩ := List.findIdx?_eq_some_iff_getElem.1 h
    have : f.any p = true := List.any_eq_true.2 ⟨_, List.getElem_mem hi, hp⟩
    rw [this]; simp
theorem idxP_cases {α : Type} (p : α → Bool) (f : List α) : (idxP p f = -1 ∧ f.any p = false) ∨ ∃ i x, idxP p f = (i : Nat) ∧ i < f.length ∧ f[i]? = some x ∧ p x = true ∧ ∀ j y, j < i → f[j]? = some y → p y = false := by
  have hge := idxP_ge p f
  unfold idxP at hge ⊢
  cases h : f.findIdx? p with
  | none => rw [h] at hge; left; simpa using hge.symm
  | some i =>
    obtain ⟨hi, hp, hn⟩ := List.findIdx?_eq_some_iff_getElem.1 h
    refine .inr ⟨i, f[i], rfl, hi, List.getElem?_eq_getElem hi, hp, fun j y hj hy => ?_⟩
    have := hn j hj
    rw [List.getElem?_eq_getElem (by omega)] at hy
    simp only [Option.some.injEq] at hy
    subst hy
    simpa using this
/-- Told of those ahead. -/
def AheadP {α : Type} (p : α → Bool) (f : List α) (i : Nat) : Prop := ∀ j x, j < i → f[j]? = some x → p x = false
theorem AheadP.zero {α : Type} {p : α → Bool} {f : List α} : AheadP p f 0 := fun j _ h => by omega
theorem AheadP.succ {α : Type} {p : α → Bool} {f : List α} {i : Nat} {x : α} (h : AheadP p f i) (hx : f[i]? = some x) (hp : p x = false) : AheadP p f (i + 1) := by
  intro j y hj hy
  by_cases e : j = i
  · subst e; rw [hx] at hy; cases hy; exact hp
  · exact h j y (by omega) hy
theorem AheadP.any {α : Type} {p : α → Bool} {f : List α} {i : Nat} (h : AheadP p f i) (hi : f.length ≤ i) : f.any p = false := by
  rw [List.any_eq_false]
  intro x hx
  obtain ⟨j, hj, rfl⟩ := List.getElem_of_mem hx
  simp [h j _ (by omega) (List.getElem?_eq_getElem hj)]
theorem any_at {α : Type} {p : α → Bool} {f : List α} {i : Nat} {x : α} (hx : f[i]? = some x) (hp : p x = true) : f.any p = true := List.any_eq_true.2 ⟨x, List.mem_of_getElem? hx, hp⟩

theorem c_spec_l2Has (f : List Int) (x : Int) (hl : f.length < 4611686018427387904) : Sound P 43 [.lst false 1 (f.map encInt), .int .i64 x] (.bool (f.any (· == x))) := by
  refine snd_b hT Try.func43 Try.results43 Try.ntmps43 ?_
  repeat' (first | refine one ?_ | (refine two ?_ ?_; all_goals (intro h; try simp only [Bool.not_eq_true', Bool.not_eq_false', reduceCtorEq] at h)) | fail)
  refine aw_loop [2, 3, 6, 7, 8, 9, 10, 11, 12, 13, 14, 15, 16, 17] (fun n S => ∃ i : Nat, n = f.length - i ∧ i ≤ f.length ∧ AheadP (· == x) f i ∧ S = [.lst false 1 (f.map encInt), .int .i64 x, .undef, .undef, .bool false, .int .i64 i, .undef, .undef, .undef, .undef, .undef, .undef, .undef, .undef, .undef, .undef, .undef, .undef]) f.length ?_ ?_
  · refine ⟨0, by simp, by omega, .zero, ?_⟩
    simp only [clr, go_sem]
    first | done | rfl
  · rintro n S ⟨i, hn, hi, ha, rfl⟩
    have hwi : IntKind.i64.wrap ((i : Int) + 1) = ((i + 1 : Nat) : Int) := by rw [wrap_small] <;> omega
    by_cases hlt : i < f.length
    · have hd : decide ((i : Int) < (f.length : Int)) = true := by simp [hlt]
      obtain ⟨y, hy⟩ : ∃ y, f[i]? = some y := ⟨f[i], by simp [hlt]⟩
      (all_goals (have E0 := @encInt.eq_1))
      repeat' (first | refine one ?_ | (refine two ?_ ?_; all_goals (intro h; try simp only [Bool.not_eq_true', Bool.not_eq_false', reduceCtorEq] at h)) | fail)
      all_goals (try clear E0)
      · (simp only [go_sem, *])
        rw [any_at hy h]
      · refine ⟨f.length - (i + 1), by omega, i + 1, rfl, by omega, ha.succ hy h, ?_⟩
        simp only [clr, go_sem]
    · have hd : decide ((i : Int) < (f.length : Int)) = false := by simp; omega
      repeat' (first | refine one ?_ | (refine two ?_ ?_; all_goals (intro h; try simp only [Bool.not_eq_true', Bool.not_eq_false', reduceCtorEq] at h)) | fail)
      (simp only [go_sem, *])
      rw [ha.any (by omega)]
noncomputable abbrev ic_spec_l2Has := Con.mk (P := P) (f := 43) Try.call43 @c_spec_l2Has
attribute [instance] ic_spec_l2Has
theorem c_slices_Index_int_int (f : List Int) (x : Int) (hl : f.length < 4611686018427387904) : Sound P 56 [.lst false 1 (f.map encInt), .int .i64 x] (.int .i64 (idxP (fun y => x == y) f)) := by
  refine snd_b hT Try.func56 Try.results56 Try.ntmps56 ?_
  repeat' (first | refine one ?_ | (refine two ?_ ?_; all_goals (intro h; try simp only [Bool.not_eq_true', Bool.not_eq_false', reduceCtorEq] at h)) | fail)
  refine aw_loop [2, 3, 5, 9, 10, 11, 12, 13, 14, 15, 16, 17, 18] (fun n S => ∃ i : Nat, n = f.length - i ∧ i ≤ f.length ∧ AheadP (fun y => x == y) f i ∧ S = [.lst false 1 (f.map encInt), .int .i64 x, .undef, .undef, .int .i64 0, .undef, .lst false 1 (f.map encInt), .int .i64 f.length, .int .i64 i, .undef, .undef, .undef, .undef, .undef, .undef, .undef, .undef, .undef, .undef]) f.length ?_ ?_
  · refine ⟨0, by simp, by omega, .zero, ?_⟩
    simp only [clr, go_sem]
    first | done | rfl
  · rintro n S ⟨i, hn, hi, ha, rfl⟩
    have hwi : IntKind.i64.wrap ((i : Int) + 1) = ((i + 1 : Nat) : Int) := by rw [wrap_small] <;> omega
    by_cases hlt : i < f.length
    · have hd : decide ((i : Int) < (f.length : Int)) = true := by simp [hlt]
      obtain ⟨y, hy⟩ : ∃ y, f[i]? = some y := ⟨f[i], by simp [hlt]⟩
      (all_goals (have E0 := @encInt.eq_1))
      repeat' (first | refine one ?_ | (refine two ?_ ?_; all_goals (intro h; try simp only [Bool.not_eq_true', Bool.not_eq_false', reduceCtorEq] at h)) | fail)
      all_goals (try clear E0)
      · (simp only [go_sem, *])
        rw [idxP_some hy h ha]
      · refine ⟨f.length - (i + 1), by omega, i + 1, rfl, by omega, ha.succ hy h, ?_⟩
        simp only [clr, go_sem]
    · have hd : decide ((i : Int) < (f.length : Int)) = false := by simp; omega
      repeat' (first | refine one ?_ | (refine two ?_ ?_; all_goals (intro h; try simp only [Bool.not_eq_true', Bool.not_eq_false', reduceCtorEq] at h)) | fail)
      (simp only [go_sem, *])
      rw [idxP_none (i := i) (by omega) ha]
noncomputable abbrev ic_slices_Index_int_int := Con.mk (P := P) (f := 56) Try.call56 @c_slices_Index_int_int
attribute [instance] ic_slices_Index_int_int
theorem any_flip (f : List Int) (x : Int) : f.any (fun y => x == y) = f.any (· == x) := by
  congr 1; funext y; exact Bool.beq_comm
theorem c_slices_Contains_int_int (f : List Int) (x : Int) (hl : f.length < 4611686018427387904) : Sound P 49 [.lst false 1 (f.map encInt), .int .i64 x] (.bool (f.any (· == x))) := by
  refine snd_b hT Try.func49 Try.results49 Try.ntmps49 ?_
  repeat' (first | refine one ?_ | (refine two ?_ ?_; all_goals (intro h; try simp only [Bool.not_eq_true', Bool.not_eq_false', reduceCtorEq] at h)) | fail)
  (simp only [go_sem, *])
  rw [idxP_ge, any_flip]
noncomputable abbrev ic_slices_Contains_int_int := Con.mk (P := P) (f := 49) Try.call49 @c_slices_Contains_int_int
attribute [instance] ic_slices_Contains_int_int
theorem c_slices_Clone_int_int (f : List Int) (hf : f.length ≤ 4194304) : Sound P 29 [.lst false 1 (f.map encInt)] (.lst true 1 (f.map encInt)) := by
  refine snd_b hT Try.func29 Try.results29 Try.ntmps29 ?_
  repeat' (first
  | (with_reducible apply al_isnil hT
     · exact gchk_none rfl
     · rfl
     · simp only [go_sem]; first | done | with_reducible rfl
     · simp only [go_sem, *]; with_reducible rfl
     · simp only [go_sem, *]; with_reducible rfl
     intro b hb
     with_reducible apply al_cast
     · simp only [go_sem]; with_reducible rfl)
  | refine oneF ?_ | (refine two ?_ ?_; all_goals (intro h; try simp only [Bool.not_eq_true', Bool.not_eq_false', reduceCtorEq] at h)) | fail)
  · have hf0 : f = [] := by
      have : f.length = 0 := by
        by_cases h0 : f.length = 0
        · exact h0
        · have := hb h0; rw [h] at this; cases this
      exact List.eq_nil_of_length_eq_zero this
    subst hf0
    (simp only [go_sem, *])
    first | done | rfl
  · (simp only [go_sem, *])
noncomputable abbrev ic_slices_Clone_int_int := Con.mk (P := P) (f := 29) Try.call29 @c_slices_Clone_int_int
attribute [instance] ic_slices_Clone_int_int
theorem c_spec_l2Copy (f : List Int) (hf : f.length ≤ 4194304) : Sound P 31 [.lst false 1 (f.map encInt)] (.lst true 1 (f.map encInt)) := by
  refine snd_b hT Try.func31 Try.results31 Try.ntmps31 ?_
  repeat' (first | refine oneF ?_ | (refine two ?_ ?_; all_goals (intro h; try simp only [Bool.not_eq_true', Bool.not_eq_false', reduceCtorEq] at h)) | fail)
  all_goals (simp only [go_sem, *])
noncomputable abbrev ic_spec_l2Copy := Con.mk (P := P) (f := 31) Try.call31 @c_spec_l2Copy
attribute [instance] ic_spec_l2Copy
end Go.Proofs.Ytbeijohahflkeaa
