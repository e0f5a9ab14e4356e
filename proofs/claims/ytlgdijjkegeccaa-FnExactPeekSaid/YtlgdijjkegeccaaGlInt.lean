/- Contracts of the law's helpers: Int. -/
import Derived.Test.YtlgdijjkegeccaaFnV
import Derived.Test.YtlgdijjkegeccaaGlText
namespace Go.Proofs.Ytlgdijjkegeccaa
open Go Go.RowKit Go.Bv
set_option linter.unusedSimpArgs false
set_option linter.unusedVariables false
set_option maxRecDepth 4000
set_option maxHeartbeats 1000000
/-! The walks that end. -/
theorem wGlInt34_0 {p : Prop} (h : p := by
  repeat' (first | refine one ?_ | (refine two ?_ ?_; all_goals (intro h; try simp only [Bool.not_eq_true', Bool.not_eq_false', reduceCtorEq] at h)) | fail)
  all_goals ((simp only [go_sem, *]); first | done | rfl)) : p := h
theorem wGlInt35_0 {p : Prop} (h : p := by
  exact wk) : p := h
def encInt (x : Int) : AV := .int .i64 x
def wInt (x : Int) : Nat := 0
def okInt (x : Int) : Prop := True
def meInt (_ : Int) (k : Int) : Int := k
def mwInt (_ : Int) : Nat := 1
theorem mw10Int (x : Int) : mwInt x ≤ 10 * (1 + wInt x) := by unfold mwInt; omega
def wIntS (f : List Int) : Nat := f.length + sumL wInt f
def okIntS (f : List Int) : Prop := f.length < 4611686018427387904 ∧ ∀ x ∈ f, okInt x
def mkIntS (f : List Int) (k : Int) : List Int := mkL meInt mwInt f k
def mwIntS (f : List Int) : Nat := sumL mwInt f
theorem mw10IntS (f : List Int) : mwIntS f ≤ 10 * wIntS f := sum10 mw10Int f
theorem ashs_Int (f : List Int) : ashs (f.map encInt) = f.map encInt := ashs_map (g := encInt) (h := encInt) (fun x => rfl) f
theorem plAs_Int (f : List Int) : plAs (f.map encInt) = true := plAs_map (g := encInt) (fun x => rfl) f
theorem alen_Int (f : List Int) : ((f.map encInt).all fun u => alen u == 1) = true := alen_map (g := encInt) (fun x => rfl) f
theorem noShs_Int (f : List Int) : noShs (f.map encInt) = true := noShs_map (g := encInt) (fun x => rfl) f
theorem leafAs_Int (f : List Int) : leafAs (f.map encInt) = true := leafAs_map (g := encInt) (fun x => rfl) f
attribute [go_sem] ashs_Int plAs_Int alen_Int noShs_Int leafAs_Int
def zeroInt : AV := .int .i64 0
theorem c_laws_szIntS (f : List Int) (left : Int) (hb : okIntS f) (h0 : decide (left < 0) = false) (h1 : left ≤ 1048576) : Sound P 63 [.lst false 1 (f.map encInt), .int .i64 left] (.int .i64 (szW (wIntS f) left)) := by
  have hl := hb.1
  have hp : 0 ≤ left := by simpa using h0
  have hw : IntKind.i64.wrap (left - f.length) = left - f.length := by rw [wrap_small] <;> omega
  have hws : wIntS f = f.length := by simp [wIntS, sumL_zero wInt (fun _ => rfl)]
  rw [hws]
  refine snd_b hT Try.func63 Try.results63 Try.ntmps63 ?_
  repeat' (first | refine one ?_ | (refine two ?_ ?_; all_goals (intro h; try simp only [Bool.not_eq_true', Bool.not_eq_false', reduceCtorEq] at h)) | fail)
  all_goals ((simp only [go_sem, *]); first | done | (simp only [decide_eq_true_eq, decide_eq_false_iff_not, szW] at *; (first | done | (repeat' split) <;> first | rfl | omega | (simp_all; done) | (simp_all; omega))))
noncomputable abbrev ic_laws_szIntS := Con.mk (P := P) (f := 63) Try.call63 @c_laws_szIntS
attribute [instance] ic_laws_szIntS
theorem c_laws_toIntS (f : List Int) (hw : wIntS f ≤ 4194304) : Sound P 66 [.lst false 1 (f.map encInt)] (.lst true 1 (f.map encInt)) := by
  have hl : f.length ≤ 4194304 := Nat.le_trans (Nat.le_add_right _ _) hw
  refine snd_b hT Try.func66 Try.results66 Try.ntmps66 ?_
  repeat' (first | refine one ?_ | (refine two ?_ ?_; all_goals (intro h; try simp only [Bool.not_eq_true', Bool.not_eq_false', reduceCtorEq] at h)) | fail)
  refine aw_loop [1, 5, 6, 8, 9, 10, 11, 12, 13, 14, 15, 16, 17, 18, 19, 20, 21] (fun n S => ∃ i : Nat, n = f.length - i ∧ i ≤ f.length ∧ S = [.lst false 1 (f.map encInt), .undef, .lst true 1 [], .ref 7 [] 0 f.length, .int .i64 i, .undef, .undef, .lst true 1 (fillL encInt zeroInt f i), .undef, .undef, .undef, .undef, .undef, .undef, .undef, .undef, .undef, .undef, .undef, .undef, .undef, .undef]) f.length ?_ ?_
  · refine ⟨0, by simp, by omega, ?_⟩
    simp only [clr, go_sem]
    first | done | simp [fillL, zeroInt]
  · rintro n S ⟨i, hn, hi, rfl⟩
    have hwi : IntKind.i64.wrap ((i : Int) + 1) = ((i + 1 : Nat) : Int) := by rw [wrap_small] <;> omega
    by_cases hlt : i < f.length
    · have hd : (i : Int) < (f.length : Int) := by omega
      obtain ⟨x, hx⟩ : ∃ x, f[i]? = some x := ⟨f[i], by simp [hlt]⟩
      have hwx : wInt x ≤ 4194304 := w_le wInt hx hw
      have hfi : (fillL encInt zeroInt f i)[i]? = some (.int .i64 0) := fillL_at encInt zeroInt hlt
      have hfs : (fillL encInt zeroInt f i).set i (.int .i64 x) = fillL encInt zeroInt f (i + 1) := fillL_set encInt zeroInt hx
      generalize fillL encInt zeroInt f i = M at *
      clear hw
      (all_goals (have E0 := @encInt.eq_1))
      repeat' (first | refine one ?_ | (refine two ?_ ?_; all_goals (intro h; try simp only [Bool.not_eq_true', Bool.not_eq_false', reduceCtorEq] at h)) | fail)
      all_goals (try clear E0)
      refine ⟨f.length - (i + 1), by omega, i + 1, rfl, by omega, ?_⟩
      simp only [clr, go_sem]
    · have hd : decide ((i : Int) < (f.length : Int)) = false := by simp; omega
      have hall : fillL encInt zeroInt f i = f.map encInt := fillL_all encInt zeroInt (by omega)
      rw [hall]
      clear hall
      repeat' (first | refine one ?_ | (refine two ?_ ?_; all_goals (intro h; try simp only [Bool.not_eq_true', Bool.not_eq_false', reduceCtorEq] at h)) | fail)
      all_goals (simp only [go_sem, *])
noncomputable abbrev ic_laws_toIntS := Con.mk (P := P) (f := 66) Try.call66 @c_laws_toIntS
attribute [instance] ic_laws_toIntS
theorem c_laws_eqIntS (f : List Int) (hw : wIntS f ≤ 4194304) : Sound P 33 [.lst false 1 (f.map encInt), .lst false 1 (f.map encInt)] (.bool true) := by
  have hl : f.length ≤ 4194304 := Nat.le_trans (Nat.le_add_right _ _) hw
  refine snd_b hT Try.func33 Try.results33 Try.ntmps33 ?_
  repeat' (first | refine one ?_ | (refine two ?_ ?_; all_goals (intro h; try simp only [Bool.not_eq_true', Bool.not_eq_false', reduceCtorEq] at h)) | fail)
  refine aw_loop [2, 3, 6, 7, 8, 9, 10, 11, 12, 13, 14, 15, 16, 17, 18, 19, 20, 21, 22, 23, 24, 25] (fun n S => ∃ i : Nat, n = f.length - i ∧ i ≤ f.length ∧ S = [.lst false 1 (f.map encInt), .lst false 1 (f.map encInt), .undef, .undef, .bool false, .int .i64 i, .undef, .undef, .undef, .undef, .undef, .undef, .undef, .undef, .undef, .undef, .undef, .undef, .undef, .undef, .undef, .undef, .undef, .undef, .undef, .undef]) f.length ?_ ?_
  · refine ⟨0, by simp, by omega, ?_⟩
    simp only [clr, go_sem]
    first | done | rfl
  · rintro n S ⟨i, hn, hi, rfl⟩
    have hwi : IntKind.i64.wrap ((i : Int) + 1) = ((i + 1 : Nat) : Int) := by rw [wrap_small] <;> omega
    by_cases hlt : i < f.length
    · have hd : decide ((i : Int) < (f.length : Int)) = true := by simp [hlt]
      obtain ⟨x, hx⟩ : ∃ x, f[i]? = some x := ⟨f[i], by simp [hlt]⟩
      have hwx : wInt x ≤ 4194304 := w_le wInt hx hw
      clear hw
      (all_goals (have E0 := @encInt.eq_1))
      repeat' (first | refine one ?_ | (refine two ?_ ?_; all_goals (intro h; try simp only [Bool.not_eq_true', Bool.not_eq_false', reduceCtorEq] at h)) | fail)
      all_goals (try clear E0)
      refine ⟨f.length - (i + 1), by omega, i + 1, rfl, by omega, ?_⟩
      simp only [clr, go_sem]
    · have hd : decide ((i : Int) < (f.length : Int)) = false := by simp; omega
      repeat' (first | refine one ?_ | (refine two ?_ ?_; all_goals (intro h; try simp only [Bool.not_eq_true', Bool.not_eq_false', reduceCtorEq] at h)) | fail)
      all_goals (simp only [go_sem, *])
noncomputable abbrev ic_laws_eqIntS := Con.mk (P := P) (f := 33) Try.call33 @c_laws_eqIntS
attribute [instance] ic_laws_eqIntS
-- LENT m_laws_markIntS 0
theorem m_laws_markIntS (f : List Int) (k : Int) (hw : wIntS f ≤ 4194304) (h0 : 0 ≤ k) (h1 : k + (mwIntS f : Nat) ≤ 1099511627776) :
    SoundM P 34 [.lst true 1 (f.map encInt), .int .i64 k] 0 (.int .i64 (k + (mwIntS f : Nat))) (.lst true 1 ((mkIntS f k).map encInt)) := by
  have hl : f.length ≤ 4194304 := Nat.le_trans (Nat.le_add_right _ _) hw
  have h10 := mw10IntS f
  refine snd_M hT Try.func34 Try.results34 Try.ntmps34 ?_
  repeat' (first | refine one ?_ | (refine two ?_ ?_; all_goals (intro h; try simp only [Bool.not_eq_true', Bool.not_eq_false', reduceCtorEq] at h)) | fail)
  refine aw_loop [2, 3, 6, 7, 8, 9, 10, 11, 12, 13, 14, 15, 16, 17, 18] (fun n S => ∃ i : Nat, n = f.length - i ∧ i ≤ f.length ∧ S = [.lst true 1 ((mkI meInt mwInt f i k).map encInt), .int .i64 (k + (sumL mwInt (f.take i) : Nat)), .undef, .undef, .int .i64 0, .int .i64 i, .undef, .undef, .undef, .undef, .undef, .undef, .undef, .undef, .undef, .undef, .undef, .undef, .undef]) f.length ?_ ?_
  · refine ⟨0, by simp, by omega, ?_⟩
    simp only [clr, go_sem]
    first | done | simp [mkI_zero, sumL]
  · rintro n S ⟨i, hn, hi, rfl⟩
    have hwi : IntKind.i64.wrap ((i : Int) + 1) = ((i + 1 : Nat) : Int) := by rw [wrap_small] <;> omega
    by_cases hlt : i < f.length
    · have hd : (i : Int) < (f.length : Int) := by omega
      obtain ⟨x, hx⟩ : ∃ x, f[i]? = some x := ⟨f[i], by simp [hlt]⟩
      have hwx : wInt x ≤ 4194304 := w_le wInt hx hw
      have hs := sumL_succ mwInt hx
      have hle := sumL_le mwInt f (i + 1)
      simp only [mwIntS] at h10 h1
      have hlen : ((mkI meInt mwInt f i k).map encInt).length = f.length := by rw [List.length_map, mkI_len]
      have hat : ((mkI meInt mwInt f i k).map encInt)[i]? = some (.int .i64 x) := by rw [List.getElem?_map, mkI_at _ _ hx]; rfl
      have hset : ((mkI meInt mwInt f i k).map encInt).set i (encInt (meInt x (k + (sumL mwInt (f.take i) : Nat)))) = (mkI meInt mwInt f (i + 1) k).map encInt := by rw [← List.map_set, mkI_set _ _ hx]
      have hil : i < ((mkI meInt mwInt f i k).map encInt).length := by omega
      have s1 : ∀ v, (((mkI meInt mwInt f i k).map encInt).set i v)[i]? = some v := fun v => List.getElem?_set_self hil
      have hpM : plAs ((mkI meInt mwInt f i k).map encInt) = true := plAs_Int _
      generalize (mkI meInt mwInt f i k).map encInt = M at *
      obtain ⟨k0, hk0⟩ : ∃ k0 : Int, k0 = k + (sumL mwInt (f.take i) : Nat) := ⟨_, rfl⟩
      rw [← hk0] at hset ⊢
      obtain ⟨k1, hk1⟩ : ∃ k1 : Int, k1 = k0 + 1 := ⟨_, rfl⟩
      have hend : k + (sumL mwInt (f.take (i + 1)) : Nat) = k1 := by rw [hs]; simp only [mwInt]; omega
      have hk1b : k1 ≤ 1099511627776 := by omega
      have hwk1 : IntKind.i64.wrap (k0 + 1) = k1 := by rw [wrap_small] <;> omega
      have hset2 : M.set i (.int .i64 k0) = (mkI meInt mwInt f (i + 1) k).map encInt := by
        rw [← hset]; congr 1 <;> (simp only [encInt, meInt]; first | done | (subst_vars; rfl))
      clear hset h10 hw hs hle hk0 hk1
      (all_goals (have E0 := @encInt.eq_1))
      (all_goals (have E1 := @List.set_set AV))
      repeat' (first | refine one ?_ | (refine two ?_ ?_; all_goals (intro h; try simp only [Bool.not_eq_true', Bool.not_eq_false', reduceCtorEq] at h)) | fail)
      all_goals (try clear E0 E1)
      refine ⟨f.length - (i + 1), by omega, i + 1, rfl, by omega, ?_⟩
      simp only [clr, go_sem, *]
    · have hd : decide ((i : Int) < (f.length : Int)) = false := by simp; omega
      have hall : mkI meInt mwInt f i k = mkIntS f k := mkI_all _ _ (by omega)
      have ht : f.take i = f := List.take_of_length_le (by omega)
      have hlen : (mkIntS f k).length = f.length := mkL_len _ _ _ _
      rw [hall, ht]
      clear hall ht
      exact wGlInt34_0
noncomputable abbrev im_laws_markIntS := ConL.mk (P := P) (f := 34) (t := 0) Try.call34 @m_laws_markIntS
attribute [instance] im_laws_markIntS
theorem c_laws_heldIntS (f : List Int) (k : Int) (hw : wIntS f ≤ 4194304) (h0 : 0 ≤ k) (h1 : k + (mwIntS f : Nat) ≤ 1099511627776) :
    Sound P 35 [.lst false 1 ((mkIntS f k).map encInt), .int .i64 k] (.int .i64 (k + (mwIntS f : Nat))) := by
  have hl : f.length ≤ 4194304 := Nat.le_trans (Nat.le_add_right _ _) hw
  have h10 := mw10IntS f
  have hlen : (mkIntS f k).length = f.length := mkL_len _ _ _ _
  refine snd_b hT Try.func35 Try.results35 Try.ntmps35 ?_
  repeat' (first | refine one ?_ | (refine two ?_ ?_; all_goals (intro h; try simp only [Bool.not_eq_true', Bool.not_eq_false', reduceCtorEq] at h)) | fail)
  refine aw_loop [2, 3, 6, 7, 8, 9, 10, 11, 12, 13, 14, 15, 16, 17, 18, 19, 20] (fun n S => ∃ i : Nat, n = f.length - i ∧ i ≤ f.length ∧ S = [.lst false 1 ((mkIntS f k).map encInt), .int .i64 (k + (sumL mwInt (f.take i) : Nat)), .undef, .undef, .int .i64 0, .int .i64 i, .undef, .undef, .undef, .undef, .undef, .undef, .undef, .undef, .undef, .undef, .undef, .undef, .undef, .undef, .undef]) f.length ?_ ?_
  · refine ⟨0, by simp, by omega, ?_⟩
    simp only [clr, go_sem]
    first | done | simp [sumL]
  · rintro n S ⟨i, hn, hi, rfl⟩
    have hwi : IntKind.i64.wrap ((i : Int) + 1) = ((i + 1 : Nat) : Int) := by rw [wrap_small] <;> omega
    by_cases hlt : i < f.length
    · have hd : decide ((i : Int) < (f.length : Int)) = true := by simp [hlt]
      obtain ⟨x, hx⟩ : ∃ x, f[i]? = some x := ⟨f[i], by simp [hlt]⟩
      have hwx : wInt x ≤ 4194304 := w_le wInt hx hw
      have hs := sumL_succ mwInt hx
      have hle := sumL_le mwInt f (i + 1)
      simp only [mwIntS] at h10 h1
      have hat : (mkIntS f k)[i]? = some (meInt x (k + (sumL mwInt (f.take i) : Nat))) := mkL_at _ _ hx k
      obtain ⟨k0, hk0⟩ : ∃ k0 : Int, k0 = k + (sumL mwInt (f.take i) : Nat) := ⟨_, rfl⟩
      rw [← hk0] at hat ⊢
      obtain ⟨k1, hk1⟩ : ∃ k1 : Int, k1 = k0 + 1 := ⟨_, rfl⟩
      have hend : k + (sumL mwInt (f.take (i + 1)) : Nat) = k1 := by rw [hs]; simp only [mwInt]; omega
      have hwk1 : IntKind.i64.wrap (k0 + 1) = k1 := by rw [wrap_small] <;> omega
      have hme : meInt x k0 = k0 := by simp only [meInt]; first | done | (subst_vars; rfl)
      rw [hme] at hat
      clear h10 hw hme hs hle hk0 hk1
      (all_goals (have E0 := @encInt.eq_1))
      repeat' (first | refine one ?_ | (refine two ?_ ?_; all_goals (intro h; try simp only [Bool.not_eq_true', Bool.not_eq_false', reduceCtorEq] at h)) | fail)
      all_goals (try clear E0)
      refine ⟨f.length - (i + 1), by omega, i + 1, rfl, by omega, ?_⟩
      simp only [clr, go_sem, *]
    · have hd : decide ((i : Int) < (f.length : Int)) = false := by simp; omega
      have ht : f.take i = f := List.take_of_length_le (by omega)
      rw [ht]
      clear ht
      exact wGlInt35_0
noncomputable abbrev ic_laws_heldIntS := Con.mk (P := P) (f := 35) Try.call35 @c_laws_heldIntS
attribute [instance] ic_laws_heldIntS
end Go.Proofs.Ytlgdijjkegeccaa
