/- Contracts of the law's helpers: Term. Contracts of the slices package at lists of impl.Term. Contracts: a filter that is right. -/
import Derived.Test.YtlgdijjkegeccaaGreatKA
import Derived.Test.YtlgdijjkegeccaaGreatKG
import Derived.Test.YtlgdijjkegeccaaGreatFnC
namespace Go.Proofs.YtlgdijjkegeccaaGreat
open Go Go.RowKit Go.Bv
set_option linter.unusedSimpArgs false
set_option linter.unusedVariables false
set_option maxRecDepth 4000
set_option maxHeartbeats 1000000
/-! The walks that end. -/
theorem wGlTerm68_0 {p : Prop} (h : p := by
  repeat' (first | refine one ?_ | (refine two ?_ ?_; all_goals (intro h; try simp only [Bool.not_eq_true', Bool.not_eq_false', reduceCtorEq] at h)) | fail)
  all_goals ((simp only [go_sem, *]); first | done | rfl)) : p := h
theorem sGlTerm69 {p q : Prop} (k : q) (h : q → p := by
  first
  | exact shAR 10 (by exact i_S hT [[], [], [0, 1], [0, 1, 2], [0, 1, 2, 3], [], [5], [0, 1, 2, 3, 4, 5, 6]] [30, 31, 32, 33, 34, 35, 36, 37])
  | exact i1
  | fail) : p := h k
theorem wGlTerm69_0 {p : Prop} (h : p := by
  repeat' (first | refine sGlTerm69 ?_ | (refine two ?_ ?_; all_goals (intro h; try simp only [Bool.not_eq_true', Bool.not_eq_false', reduceCtorEq] at h)) | fail)
  all_goals (simp only [go_sem, *]; first | done | rfl)) : p := h
theorem sGlTerm82 {p q : Prop} (k : q) (h : q → p := by
  first
  | exact shAR 6 (by exact i_S hT [[], [], [0, 1], [0, 1, 2], [], [], [4, 5], [4, 5, 6], [0, 1, 2, 3, 4, 5, 6, 7], [0, 1, 2, 3, 4, 5, 6, 7, 8]] [17, 18, 19, 20, 21, 22, 23, 24, 25, 26])
  | exact i1
  | fail) : p := h k
structure TermV where
  op : Int
  num : Int
  text : ByteArray
def encT (x : TermV) : AV := .agg [.int .i64 x.op, .int .i64 x.num, .str x.text]
theorem encT_eq (t : TermV) : encT t = .agg [.int .i64 t.op, .int .i64 t.num, .str t.text] := rfl
def TermV.fits (t : TermV) : Prop := t.text.size < 4611686018427387904
def wTerm (x : TermV) : Nat := x.text.size
def okTerm (x : TermV) : Prop := x.text.size < 4611686018427387904
def meTerm (x : TermV) (k : Int) : TermV := { op := k, num := k + 1, text := mText (k + 1 + 1) }
def mwTerm (x : TermV) : Nat := 3
theorem mw10Term (x : TermV) : mwTerm x ≤ 10 * (1 + wTerm x) := by
  skip
  simp only [mwTerm, wTerm]; omega
def wTermS (f : List TermV) : Nat := f.length + sumL wTerm f
def okTermS (f : List TermV) : Prop := f.length < 4611686018427387904 ∧ ∀ x ∈ f, okTerm x
def mkTermS (f : List TermV) (k : Int) : List TermV := mkL meTerm mwTerm f k
def mwTermS (f : List TermV) : Nat := sumL mwTerm f
theorem mw10TermS (f : List TermV) : mwTermS f ≤ 10 * wTermS f := sum10 mw10Term f
theorem ashs_Term (f : List TermV) : ashs (f.map encT) = f.map encT := ashs_map (g := encT) (h := encT) (fun x => rfl) f
theorem plAs_Term (f : List TermV) : plAs (f.map encT) = true := plAs_map (g := encT) (fun x => rfl) f
theorem alen_Term (f : List TermV) : ((f.map encT).all fun u => alen u == 3) = true := alen_map (g := encT) (fun x => rfl) f
theorem noShs_Term (f : List TermV) : noShs (f.map encT) = true := noShs_map (g := encT) (fun x => rfl) f
theorem leafAs_Term (f : List TermV) : leafAs (f.map encT) = true := leafAs_map (g := encT) (fun x => rfl) f
attribute [go_sem] ashs_Term plAs_Term alen_Term noShs_Term leafAs_Term
def zeroTerm : AV := .agg [.int .i64 0, .int .i64 0, .str { data := #[] }]
theorem c_laws_szTerm (x : TermV) (left : Int) {u : AV} (hu : u = encT x) (hb : okTerm x) (h0 : decide (left < 0) = false) (h1 : left ≤ 1048576) : Sound P 83 [u, .int .i64 left] (.int .i64 (szW (wTerm x) left)) := by
  subst hu
  have hp : 0 ≤ left := by simpa using h0
  have hb0 := hb
  simp only [okTerm] at hb0
  have hw0 : IntKind.i64.wrap (left - (x.text.size : Int)) = left - (x.text.size : Int) := by rw [wrap_small] <;> omega
  refine snd_b hT Tryz.func83 Tryz.results83 Tryz.ntmps83 ?_
  (all_goals (have E0 := @encT.eq_1))
  repeat' (first | refine one ?_ | (refine two ?_ ?_; all_goals (intro h; try simp only [Bool.not_eq_true', Bool.not_eq_false', reduceCtorEq] at h)) | fail)
  all_goals (try clear E0)
  all_goals (
    (simp only [go_sem, *])
    first
    | done
    | (have hT : wTerm x = x.text.size := rfl
       simp only [decide_eq_true_eq, decide_eq_false_iff_not, Option.some.injEq, AV.int.injEq, true_and] at *
       rcases szW_cases (wTerm x) left with ⟨_, _⟩ | ⟨_, _⟩ <;> omega))
noncomputable abbrev ic_laws_szTerm := Con.mk (P := P) (f := 83) Tryz.call83 @c_laws_szTerm
attribute [instance] ic_laws_szTerm
theorem c_laws_toTerm (x : TermV) {u : AV} (hu : u = encT x) (hw : wTerm x ≤ 4194304) : Sound P 86 [u] (encT x) := by
  subst hu
  clear hw
  refine snd_b hT Tryz.func86 Tryz.results86 Tryz.ntmps86 ?_
  (all_goals (have E0 := @encT.eq_1))
  repeat' (first | refine one ?_ | (refine two ?_ ?_; all_goals (intro h; try simp only [Bool.not_eq_true', Bool.not_eq_false', reduceCtorEq] at h)) | fail)
  all_goals (try clear E0)
  all_goals ((simp only [go_sem, *]); first | done | rfl)
noncomputable abbrev ic_laws_toTerm := Con.mk (P := P) (f := 86) Tryz.call86 @c_laws_toTerm
attribute [instance] ic_laws_toTerm
theorem c_laws_eqTerm (x : TermV) {u v : AV} (hu : u = encT x) (hv : v = encT x) (hw : wTerm x ≤ 4194304) : Sound P 93 [u, v] (.bool true) := by
  subst hu hv
  clear hw
  refine snd_b hT Tryz.func93 Tryz.results93 Tryz.ntmps93 ?_
  (all_goals (have E0 := @encT.eq_1))
  repeat' (first | refine one ?_ | (refine two ?_ ?_; all_goals (intro h; try simp only [Bool.not_eq_true', Bool.not_eq_false', reduceCtorEq] at h)) | fail)
  all_goals (try clear E0)
  all_goals (simp only [go_sem, *])
noncomputable abbrev ic_laws_eqTerm := Con.mk (P := P) (f := 93) Tryz.call93 @c_laws_eqTerm
attribute [instance] ic_laws_eqTerm
theorem c_laws_szTermS (f : List TermV) (left : Int) (hb : okTermS f) (h0 : decide (left < 0) = false) (h1 : left ≤ 1048576) : Sound P 70 [.lst false 3 (f.map encT), .int .i64 left] (.int .i64 (szW (wTermS f) left)) := by
  have hl := hb.1
  have hp : 0 ≤ left := by simpa using h0
  have hw : IntKind.i64.wrap (left - f.length) = left - f.length := by rw [wrap_small] <;> omega
  refine snd_b hT Tryz.func70 Tryz.results70 Tryz.ntmps70 ?_
  repeat' (first | refine one ?_ | (refine two ?_ ?_; all_goals (intro h; try simp only [Bool.not_eq_true', Bool.not_eq_false', reduceCtorEq] at h)) | fail)
  · (simp only [go_sem, *])
    have hall : szW (wTermS f) left = -1 := by rw [szW, if_neg]; simp only [wTermS]; simp only [decide_eq_true_eq] at h; omega
    first | done | rw [hall]
  have hlen : decide (left - f.length < 0) = false := h
  have hlen2 : (f.length : Int) ≤ left := by simp only [decide_eq_false_iff_not] at h; omega
  clear h
  refine aw_loop [2, 3, 6, 7, 8, 9, 10, 11, 12, 13, 14, 15, 16, 17, 18, 19, 20, 21, 22, 23, 24, 25, 26] (fun n S => ∃ i : Nat, n = f.length - i ∧ i ≤ f.length ∧ 0 ≤ left - f.length - (sumL wTerm (f.take i) : Nat) ∧ S = [.lst false 3 (f.map encT), .int .i64 (left - f.length - (sumL wTerm (f.take i) : Nat)), .undef, .undef, .int .i64 0, .int .i64 i, .undef, .undef, .undef, .undef, .undef, .undef, .undef, .undef, .undef, .undef, .undef, .undef, .undef, .undef, .undef, .undef, .undef, .undef, .undef, .undef, .undef]) f.length ?_ ?_
  · refine ⟨0, by simp, by omega, by simp [sumL]; omega, ?_⟩
    simp only [clr, go_sem]
    first | done | simp [sumL]
  · rintro n S ⟨i, hn, hi, hpos, rfl⟩
    have hwi : IntKind.i64.wrap ((i : Int) + 1) = ((i + 1 : Nat) : Int) := by rw [wrap_small] <;> omega
    by_cases hlt : i < f.length
    · have hd : decide ((i : Int) < (f.length : Int)) = true := by simp [hlt]
      obtain ⟨x, hx⟩ : ∃ x, f[i]? = some x := ⟨f[i], by simp [hlt]⟩
      have hok := hb.2 x (List.mem_of_getElem? hx)
      have hs := sumL_succ wTerm hx
      have hle := sumL_le wTerm f (i + 1)
      have hg0 : decide (left - f.length - (sumL wTerm (f.take i) : Nat) < 0) = false := by simp; omega
      have hg1 : left - f.length - (sumL wTerm (f.take i) : Nat) ≤ 1048576 := by omega
      clear hb
      by_cases hf : (wTerm x : Int) ≤ left - f.length - (sumL wTerm (f.take i) : Nat)
      · have he : szW (wTerm x) (left - f.length - (sumL wTerm (f.take i) : Nat)) = left - f.length - (sumL wTerm (f.take (i + 1)) : Nat) := by rw [szW, if_pos hf]; omega
        have hgp : 0 ≤ left - f.length - (sumL wTerm (f.take (i + 1)) : Nat) := by omega
        have hgn : decide (left - f.length - (sumL wTerm (f.take (i + 1)) : Nat) < 0) = false := by simp; omega
        clear hs hle
        (all_goals (have E0 := @encT.eq_1))
        repeat' (first | refine one ?_ | (refine two ?_ ?_; all_goals (intro h; try simp only [Bool.not_eq_true', Bool.not_eq_false', reduceCtorEq] at h)) | fail)
        all_goals (try clear E0)
        refine ⟨f.length - (i + 1), by omega, i + 1, rfl, by omega, hgp, ?_⟩
        simp only [clr, go_sem]
      · have he : szW (wTerm x) (left - f.length - (sumL wTerm (f.take i) : Nat)) = -1 := by rw [szW, if_neg hf]
        have hgn : decide ((-1 : Int) < 0) = true := by decide
        have hall : szW (wTermS f) left = -1 := by rw [szW, if_neg]; simp only [wTermS]; omega
        (all_goals (have E0 := @encT.eq_1))
        repeat' (first | refine one ?_ | (refine two ?_ ?_; all_goals (intro h; try simp only [Bool.not_eq_true', Bool.not_eq_false', reduceCtorEq] at h)) | fail)
        all_goals (try clear E0)
        all_goals (simp only [go_sem, *])
    · have hd : decide ((i : Int) < (f.length : Int)) = false := by simp; omega
      have ht : f.take i = f := List.take_of_length_le (by omega)
      rw [ht] at hpos ⊢
      have hall : szW (wTermS f) left = left - f.length - (sumL wTerm f : Nat) := by rw [szW, if_pos] <;> simp only [wTermS] <;> omega
      repeat' (first | refine one ?_ | (refine two ?_ ?_; all_goals (intro h; try simp only [Bool.not_eq_true', Bool.not_eq_false', reduceCtorEq] at h)) | fail)
      all_goals (simp only [go_sem, *])
noncomputable abbrev ic_laws_szTermS := Con.mk (P := P) (f := 70) Tryz.call70 @c_laws_szTermS
attribute [instance] ic_laws_szTermS
theorem c_laws_toTermS (f : List TermV) (hw : wTermS f ≤ 4194304) : Sound P 74 [.lst false 3 (f.map encT)] (.lst true 3 (f.map encT)) := by
  have hl : f.length ≤ 4194304 := Nat.le_trans (Nat.le_add_right _ _) hw
  refine snd_b hT Tryz.func74 Tryz.results74 Tryz.ntmps74 ?_
  repeat' (first | refine one ?_ | (refine two ?_ ?_; all_goals (intro h; try simp only [Bool.not_eq_true', Bool.not_eq_false', reduceCtorEq] at h)) | fail)
  refine aw_loop [1, 5, 6, 8, 9, 10, 11, 12, 13, 14, 15, 16, 17, 18, 19, 20, 21, 22] (fun n S => ∃ i : Nat, n = f.length - i ∧ i ≤ f.length ∧ S = [.lst false 3 (f.map encT), .undef, .lst true 3 [], .ref 7 [] 0 f.length, .int .i64 i, .undef, .undef, .lst true 3 (fillL encT zeroTerm f i), .undef, .undef, .undef, .undef, .undef, .undef, .undef, .undef, .undef, .undef, .undef, .undef, .undef, .undef, .undef]) f.length ?_ ?_
  · refine ⟨0, by simp, by omega, ?_⟩
    simp only [clr, go_sem]
    first | done | simp [fillL, zeroTerm]
  · rintro n S ⟨i, hn, hi, rfl⟩
    have hwi : IntKind.i64.wrap ((i : Int) + 1) = ((i + 1 : Nat) : Int) := by rw [wrap_small] <;> omega
    by_cases hlt : i < f.length
    · have hd : (i : Int) < (f.length : Int) := by omega
      obtain ⟨x, hx⟩ : ∃ x, f[i]? = some x := ⟨f[i], by simp [hlt]⟩
      have hwx : wTerm x ≤ 4194304 := w_le wTerm hx hw
      have hfi : (fillL encT zeroTerm f i)[i]? = some (.agg [.int .i64 0, .int .i64 0, .str { data := #[] }]) := fillL_at encT zeroTerm hlt
      have hfs : (fillL encT zeroTerm f i).set i (.agg [.int .i64 x.op, .int .i64 x.num, .str x.text]) = fillL encT zeroTerm f (i + 1) := fillL_set encT zeroTerm hx
      generalize fillL encT zeroTerm f i = M at *
      clear hw
      (all_goals (have E0 := @encT.eq_1))
      repeat' (first | refine one ?_ | (refine two ?_ ?_; all_goals (intro h; try simp only [Bool.not_eq_true', Bool.not_eq_false', reduceCtorEq] at h)) | fail)
      all_goals (try clear E0)
      refine ⟨f.length - (i + 1), by omega, i + 1, rfl, by omega, ?_⟩
      simp only [clr, go_sem]
    · have hd : decide ((i : Int) < (f.length : Int)) = false := by simp; omega
      have hall : fillL encT zeroTerm f i = f.map encT := fillL_all encT zeroTerm (by omega)
      rw [hall]
      clear hall
      repeat' (first | refine one ?_ | (refine two ?_ ?_; all_goals (intro h; try simp only [Bool.not_eq_true', Bool.not_eq_false', reduceCtorEq] at h)) | fail)
      all_goals (simp only [go_sem, *])
noncomputable abbrev ic_laws_toTermS := Con.mk (P := P) (f := 74) Tryz.call74 @c_laws_toTermS
attribute [instance] ic_laws_toTermS
theorem c_laws_eqTermS (f : List TermV) (hw : wTermS f ≤ 4194304) : Sound P 82 [.lst false 3 (f.map encT), .lst false 3 (f.map encT)] (.bool true) := by
  have hl : f.length ≤ 4194304 := Nat.le_trans (Nat.le_add_right _ _) hw
  refine snd_b hT Tryz.func82 Tryz.results82 Tryz.ntmps82 ?_
  repeat' (first | refine sGlTerm82 ?_ | (refine two ?_ ?_; all_goals (intro h; try simp only [Bool.not_eq_true', Bool.not_eq_false', reduceCtorEq] at h)) | fail)
  refine aw_loop [2, 3, 6, 7, 8, 9, 10, 11, 12, 13, 14, 15, 16, 17, 18, 19, 20, 21, 22, 23, 24, 25, 26] (fun n S => ∃ i : Nat, n = f.length - i ∧ i ≤ f.length ∧ S = [.lst false 3 (f.map encT), .lst false 3 (f.map encT), .undef, .undef, .bool false, .int .i64 i, .undef, .undef, .undef, .undef, .undef, .undef, .undef, .undef, .undef, .undef, .undef, .undef, .undef, .undef, .undef, .undef, .undef, .undef, .undef, .undef, .undef]) f.length ?_ ?_
  · refine ⟨0, by simp, by omega, ?_⟩
    simp only [clr, go_sem]
    first | done | rfl
  · rintro n S ⟨i, hn, hi, rfl⟩
    have hwi : IntKind.i64.wrap ((i : Int) + 1) = ((i + 1 : Nat) : Int) := by rw [wrap_small] <;> omega
    by_cases hlt : i < f.length
    · have hd : decide ((i : Int) < (f.length : Int)) = true := by simp [hlt]
      obtain ⟨x, hx⟩ : ∃ x, f[i]? = some x := ⟨f[i], by simp [hlt]⟩
      have hwx : wTerm x ≤ 4194304 := w_le wTerm hx hw
      clear hw
      (all_goals (have E0 := @encT.eq_1))
      repeat' (first | refine sGlTerm82 ?_ | (refine two ?_ ?_; all_goals (intro h; try simp only [Bool.not_eq_true', Bool.not_eq_false', reduceCtorEq] at h)) | fail)
      all_goals (try clear E0)
      refine ⟨f.length - (i + 1), by omega, i + 1, rfl, by omega, ?_⟩
      simp only [clr, go_sem]
    · have hd : decide ((i : Int) < (f.length : Int)) = false := by simp; omega
      repeat' (first | refine sGlTerm82 ?_ | (refine two ?_ ?_; all_goals (intro h; try simp only [Bool.not_eq_true', Bool.not_eq_false', reduceCtorEq] at h)) | fail)
      all_goals (simp only [go_sem, *])
noncomputable abbrev ic_laws_eqTermS := Con.mk (P := P) (f := 82) Tryz.call82 @c_laws_eqTermS
attribute [instance] ic_laws_eqTermS
-- LENT m_laws_markTermS 0
theorem m_laws_markTermS (f : List TermV) (k : Int) (hw : wTermS f ≤ 4194304) (h0 : 0 ≤ k) (h1 : k + (mwTermS f : Nat) ≤ 1099511627776) :
    SoundM P 68 [.lst true 3 (f.map encT), .int .i64 k] 0 (.int .i64 (k + (mwTermS f : Nat))) (.lst true 3 ((mkTermS f k).map encT)) := by
  have hl : f.length ≤ 4194304 := Nat.le_trans (Nat.le_add_right _ _) hw
  have h10 := mw10TermS f
  refine snd_M hT Tryz.func68 Tryz.results68 Tryz.ntmps68 ?_
  repeat' (first | refine one ?_ | (refine two ?_ ?_; all_goals (intro h; try simp only [Bool.not_eq_true', Bool.not_eq_false', reduceCtorEq] at h)) | fail)
  refine aw_loop [2, 3, 6, 7, 8, 9, 10, 11, 12, 13, 14, 15, 16, 17, 18, 19, 20, 21, 22, 23, 24, 25, 26, 27, 28, 29, 30, 31, 32, 33, 34] (fun n S => ∃ i : Nat, n = f.length - i ∧ i ≤ f.length ∧ S = [.lst true 3 ((mkI meTerm mwTerm f i k).map encT), .int .i64 (k + (sumL mwTerm (f.take i) : Nat)), .undef, .undef, .int .i64 0, .int .i64 i, .undef, .undef, .undef, .undef, .undef, .undef, .undef, .undef, .undef, .undef, .undef, .undef, .undef, .undef, .undef, .undef, .undef, .undef, .undef, .undef, .undef, .undef, .undef, .undef, .undef, .undef, .undef, .undef, .undef]) f.length ?_ ?_
  · refine ⟨0, by simp, by omega, ?_⟩
    simp only [clr, go_sem]
    first | done | simp [mkI_zero, sumL]
  · rintro n S ⟨i, hn, hi, rfl⟩
    have hwi : IntKind.i64.wrap ((i : Int) + 1) = ((i + 1 : Nat) : Int) := by rw [wrap_small] <;> omega
    by_cases hlt : i < f.length
    · have hd : (i : Int) < (f.length : Int) := by omega
      obtain ⟨x, hx⟩ : ∃ x, f[i]? = some x := ⟨f[i], by simp [hlt]⟩
      have hwx : wTerm x ≤ 4194304 := w_le wTerm hx hw
      have hs := sumL_succ mwTerm hx
      have hle := sumL_le mwTerm f (i + 1)
      simp only [mwTermS] at h10 h1
      have hlen : ((mkI meTerm mwTerm f i k).map encT).length = f.length := by rw [List.length_map, mkI_len]
      have hat : ((mkI meTerm mwTerm f i k).map encT)[i]? = some (.agg [.int .i64 x.op, .int .i64 x.num, .str x.text]) := by rw [List.getElem?_map, mkI_at _ _ hx]; rfl
      have hset : ((mkI meTerm mwTerm f i k).map encT).set i (encT (meTerm x (k + (sumL mwTerm (f.take i) : Nat)))) = (mkI meTerm mwTerm f (i + 1) k).map encT := by rw [← List.map_set, mkI_set _ _ hx]
      have hil : i < ((mkI meTerm mwTerm f i k).map encT).length := by omega
      have s1 : ∀ v, (((mkI meTerm mwTerm f i k).map encT).set i v)[i]? = some v := fun v => List.getElem?_set_self hil
      have hpM : plAs ((mkI meTerm mwTerm f i k).map encT) = true := plAs_Term _
      generalize (mkI meTerm mwTerm f i k).map encT = M at *
      obtain ⟨k0, hk0⟩ : ∃ k0 : Int, k0 = k + (sumL mwTerm (f.take i) : Nat) := ⟨_, rfl⟩
      rw [← hk0] at hset ⊢
      obtain ⟨k1, hk1⟩ : ∃ k1 : Int, k1 = k0 + 1 := ⟨_, rfl⟩
      obtain ⟨k2, hk2⟩ : ∃ k2 : Int, k2 = k1 + 1 := ⟨_, rfl⟩
      obtain ⟨k3, hk3⟩ : ∃ k3 : Int, k3 = k2 + 1 := ⟨_, rfl⟩
      have hend : k + (sumL mwTerm (f.take (i + 1)) : Nat) = k3 := by rw [hs]; simp only [mwTerm]; omega
      have hk1b : k3 ≤ 1099511627776 := by omega
      have hwk1 : IntKind.i64.wrap (k0 + 1) = k1 := by rw [wrap_small] <;> omega
      have hwk2 : IntKind.i64.wrap (k1 + 1) = k2 := by rw [wrap_small] <;> omega
      have hwk3 : IntKind.i64.wrap (k2 + 1) = k3 := by rw [wrap_small] <;> omega
      have hbk3 : k2 < 4611686018427387904 := by omega
      have hset2 : M.set i (.agg [.int .i64 k0, .int .i64 k1, .str (mText k2)]) = (mkI meTerm mwTerm f (i + 1) k).map encT := by
        rw [← hset]; congr 1 <;> (simp only [encT, meTerm]; first | done | (subst_vars; rfl))
      clear hset h10 hw hs hle hk0 hk1 hk2 hk3
      (all_goals (have E0 := @encT.eq_1))
      (all_goals (have E1 := @List.set_set AV))
      repeat' (first | refine one ?_ | (refine two ?_ ?_; all_goals (intro h; try simp only [Bool.not_eq_true', Bool.not_eq_false', reduceCtorEq] at h)) | fail)
      all_goals (try clear E0 E1)
      refine ⟨f.length - (i + 1), by omega, i + 1, rfl, by omega, ?_⟩
      simp only [clr, go_sem, *]
    · have hd : decide ((i : Int) < (f.length : Int)) = false := by simp; omega
      have hall : mkI meTerm mwTerm f i k = mkTermS f k := mkI_all _ _ (by omega)
      have ht : f.take i = f := List.take_of_length_le (by omega)
      have hlen : (mkTermS f k).length = f.length := mkL_len _ _ _ _
      rw [hall, ht]
      clear hall ht
      exact wGlTerm68_0
noncomputable abbrev im_laws_markTermS := ConL.mk (P := P) (f := 68) (t := 0) Tryz.call68 @m_laws_markTermS
attribute [instance] im_laws_markTermS
theorem c_laws_heldTermS (f : List TermV) (k : Int) (hw : wTermS f ≤ 4194304) (h0 : 0 ≤ k) (h1 : k + (mwTermS f : Nat) ≤ 1099511627776) :
    Sound P 69 [.lst false 3 ((mkTermS f k).map encT), .int .i64 k] (.int .i64 (k + (mwTermS f : Nat))) := by
  have hl : f.length ≤ 4194304 := Nat.le_trans (Nat.le_add_right _ _) hw
  have h10 := mw10TermS f
  have hlen : (mkTermS f k).length = f.length := mkL_len _ _ _ _
  refine snd_b hT Tryz.func69 Tryz.results69 Tryz.ntmps69 ?_
  repeat' (first | refine sGlTerm69 ?_ | (refine two ?_ ?_; all_goals (intro h; try simp only [Bool.not_eq_true', Bool.not_eq_false', reduceCtorEq] at h)) | fail)
  refine aw_loop [2, 3, 6, 7, 8, 9, 10, 11, 12, 13, 14, 15, 16, 17, 18, 19, 20, 21, 22, 23, 24, 25, 26, 27, 28, 29, 30, 31, 32, 33, 34, 35, 36, 37, 38, 39, 40] (fun n S => ∃ i : Nat, n = f.length - i ∧ i ≤ f.length ∧ S = [.lst false 3 ((mkTermS f k).map encT), .int .i64 (k + (sumL mwTerm (f.take i) : Nat)), .undef, .undef, .int .i64 0, .int .i64 i, .undef, .undef, .undef, .undef, .undef, .undef, .undef, .undef, .undef, .undef, .undef, .undef, .undef, .undef, .undef, .undef, .undef, .undef, .undef, .undef, .undef, .undef, .undef, .undef, .undef, .undef, .undef, .undef, .undef, .undef, .undef, .undef, .undef, .undef, .undef]) f.length ?_ ?_
  · refine ⟨0, by simp, by omega, ?_⟩
    simp only [clr, go_sem]
    first | done | simp [sumL]
  · rintro n S ⟨i, hn, hi, rfl⟩
    have hwi : IntKind.i64.wrap ((i : Int) + 1) = ((i + 1 : Nat) : Int) := by rw [wrap_small] <;> omega
    by_cases hlt : i < f.length
    · have hd : decide ((i : Int) < (f.length : Int)) = true := by simp [hlt]
      obtain ⟨x, hx⟩ : ∃ x, f[i]? = some x := ⟨f[i], by simp [hlt]⟩
      have hwx : wTerm x ≤ 4194304 := w_le wTerm hx hw
      have hs := sumL_succ mwTerm hx
      have hle := sumL_le mwTerm f (i + 1)
      simp only [mwTermS] at h10 h1
      have hat : (mkTermS f k)[i]? = some (meTerm x (k + (sumL mwTerm (f.take i) : Nat))) := mkL_at _ _ hx k
      obtain ⟨k0, hk0⟩ : ∃ k0 : Int, k0 = k + (sumL mwTerm (f.take i) : Nat) := ⟨_, rfl⟩
      rw [← hk0] at hat ⊢
      obtain ⟨k1, hk1⟩ : ∃ k1 : Int, k1 = k0 + 1 := ⟨_, rfl⟩
      obtain ⟨k2, hk2⟩ : ∃ k2 : Int, k2 = k1 + 1 := ⟨_, rfl⟩
      obtain ⟨k3, hk3⟩ : ∃ k3 : Int, k3 = k2 + 1 := ⟨_, rfl⟩
      have hend : k + (sumL mwTerm (f.take (i + 1)) : Nat) = k3 := by rw [hs]; simp only [mwTerm]; omega
      have hwk1 : IntKind.i64.wrap (k0 + 1) = k1 := by rw [wrap_small] <;> omega
      have hwk2 : IntKind.i64.wrap (k1 + 1) = k2 := by rw [wrap_small] <;> omega
      have hwk3 : IntKind.i64.wrap (k2 + 1) = k3 := by rw [wrap_small] <;> omega
      have hbk3 : k2 < 4611686018427387904 := by omega
      have hme : meTerm x k0 = { op := k0, num := k1, text := mText k2 } := by simp only [meTerm]; first | done | (subst_vars; rfl)
      rw [hme] at hat
      clear h10 hw hme hs hle hk0 hk1 hk2 hk3
      (all_goals (have E0 := @encT.eq_1))
      repeat' (first | refine sGlTerm69 ?_ | (refine two ?_ ?_; all_goals (intro h; try simp only [Bool.not_eq_true', Bool.not_eq_false', reduceCtorEq] at h)) | fail)
      all_goals (try clear E0)
      refine ⟨f.length - (i + 1), by omega, i + 1, rfl, by omega, ?_⟩
      simp only [clr, go_sem, *]
    · have hd : decide ((i : Int) < (f.length : Int)) = false := by simp; omega
      have ht : f.take i = f := List.take_of_length_le (by omega)
      rw [ht]
      clear ht
      exact wGlTerm69_0
noncomputable abbrev ic_laws_heldTermS := Con.mk (P := P) (f := 69) Tryz.call69 @c_laws_heldTermS
attribute [instance] ic_laws_heldTermS
end Go.Proofs.YtlgdijjkegeccaaGreat
namespace Go.Proofs.YtlgdijjkegeccaaGreat
open Go Go.RowKit Go.Bv
set_option linter.unusedSimpArgs false
set_option linter.unusedVariables false
set_option maxRecDepth 4000
set_option maxHeartbeats 1000000
theorem c_slices_Clone_impl_Term_impl_Term (f : List TermV) (hf : f.length ≤ 4194304) : Sound P 53 [.lst false 3 (f.map encT)] (.lst true 3 (f.map encT)) := by
  refine snd_b hT Tryz.func53 Tryz.results53 Tryz.ntmps53 ?_
  repeat' (first
  | (with_reducible apply al_isnil hT
     · exact gchk_none rfl
     · rfl
     · simp only [go_sem]; first | done | with_reducible rfl
     · simp only [go_sem, *]; with_reducible rfl
     · simp only [go_sem, *]; with_reducible rfl
     intro b hb
     with_reducible apply al_cast
     · simp only [go_sem]; with_reducible rfl)
  | refine oneF ?_ | (refine two ?_ ?_; all_goals (intro h; try simp only [Bool.not_eq_true', Bool.not_eq_false', reduceCtorEq] at h)) | fail)
  · have hf0 : f = [] := by
      have : f.length = 0 := by
        by_cases h0 : f.length = 0
        · exact h0
        · have := hb h0; rw [h] at this; cases this
      exact List.eq_nil_of_length_eq_zero this
    subst hf0
    (simp only [go_sem, *])
    first | done | rfl
  · (simp only [go_sem, *])
noncomputable abbrev ic_slices_Clone_impl_Term_impl_Term := Con.mk (P := P) (f := 53) Tryz.call53 @c_slices_Clone_impl_Term_impl_Term
attribute [instance] ic_slices_Clone_impl_Term_impl_Term
end Go.Proofs.YtlgdijjkegeccaaGreat
namespace Go.Proofs.YtlgdijjkegeccaaGreat
open Go Go.RowKit Go.Bv
set_option linter.unusedSimpArgs false
set_option linter.unusedVariables false
set_option maxRecDepth 4000

/-- What stands on the stack behind a term. -/
def step1 (n : Int) (t : TermV) : Option Int := if termB t.op t.num t.text = true ∧ ¬ n < takesI t.op then some (n + (1 - takesI t.op)) else none
def run1 : List TermV → Int → Option Int
  | [], n => some n
  | t :: ts, n => match step1 n t with | some m => run1 ts m | none => none
def filterB (f : List TermV) : Bool := match run1 f 0 with
  | some n => decide ((f.length : Int) ≤ 12) && (n == 1 || (f.length : Int) == 0)
  | none => false

theorem run1_app (f : List TermV) : ∀ (g : List TermV) (n : Int), run1 (f ++ g) n = match run1 f n with | some m => run1 g m | none => none := by
  induction f with
  | nil => intro g n; rfl
  | cons t f ih =>
    intro g n
    simp only [List.cons_append, run1]
    cases step1 n t with
    | none => rfl
    | some m => exact ih g m
/-- The stack behind the first i. -/
theorem run1_take {f : List TermV} {i : Nat} {t : TermV} (h : f[i]? = some t) (n : Int) : run1 (f.take (i + 1)) n = match run1 (f.take i) n with | some m => step1 m t | none => none := by
  have hi := (List.getElem?_eq_some_iff.1 h).1
  rw [← List.take_append_getElem hi, run1_app]
  have : f[i] = t := (List.getElem?_eq_some_iff.1 h).2
  rw [this]
  cases run1 (f.take i) n with
  | none => rfl
  | some m => simp only [run1]; cases step1 m t <;> rfl
theorem run1_none {f : List TermV} {i : Nat} (h : run1 (f.take i) 0 = none) : filterB f = false := by
  unfold filterB
  rw [← List.take_append_drop i f, run1_app, h]

theorem takesI_le (o : Int) : 0 ≤ takesI o ∧ takesI o ≤ 2 := by unfold takesI; split <;> (try split) <;> omega
theorem c_impl_FilterOk {s : Nat} (f : List TermV) (hf : f.length < 4611686018427387904) (ht : ∀ t ∈ f, t.fits) : Sound P 75 [.lst false s (f.map encT)] (.bool (filterB f)) := by
  refine snd_b hT Tryz.func75 Tryz.results75 Tryz.ntmps75 ?_
  repeat' (first | refine one ?_ | (refine two ?_ ?_; all_goals (intro h; try simp only [Bool.not_eq_true', Bool.not_eq_false', reduceCtorEq] at h)) | fail)
  · refine aw_loop [1, 4, 5, 9, 10, 11, 12, 13, 14, 15, 16, 17, 18, 19, 20, 21, 22, 23, 24, 25, 26, 27, 28, 29, 30, 31, 32, 33, 34, 35, 36, 37, 38] (fun n S => ∃ (i : Nat) (m : Int), n = f.length - i ∧ i ≤ f.length ∧ 0 ≤ m ∧ m ≤ i ∧ run1 (f.take i) 0 = some m ∧ S = [.lst false s (f.map encT), .undef, .bool false, .int .i64 m, .undef, .undef, .lst false s (f.map encT), .int .i64 f.length, .int .i64 i, .undef, .undef, .undef, .undef, .undef, .undef, .undef, .undef, .undef, .undef, .undef, .undef, .undef, .undef, .undef, .undef, .undef, .undef, .undef, .undef, .undef, .undef, .undef, .undef, .undef, .undef, .undef, .undef, .undef, .undef]) f.length ?_ ?_
    · refine ⟨0, 0, by simp, by omega, by omega, by omega, by simp [run1], ?_⟩
      simp only [clr, go_sem]
      first | done | rfl
    · rintro n S ⟨i, m, hn, hi, hm0, hmi, hr, rfl⟩
      have hw : IntKind.i64.wrap ((i : Int) + 1) = ((i + 1 : Nat) : Int) := by rw [wrap_small] <;> omega
      by_cases hlt : i < f.length
      · have hd : decide ((i : Int) < (f.length : Int)) = true := by simp [hlt]
        obtain ⟨t, hti⟩ : ∃ t, f[i]? = some t := ⟨f[i], by simp [hlt]⟩
        have hfit : t.text.size < 4611686018427387904 := ht t (List.mem_of_getElem? hti)
        have htk := run1_take hti 0
        rw [hr] at htk
        simp only [step1] at htk
        clear ht
        obtain ⟨hk0, hk2⟩ := takesI_le t.op
        have hw1 : IntKind.i64.wrap (1 - takesI t.op) = 1 - takesI t.op := by rw [wrap_small] <;> omega
        have hw2 : IntKind.i64.wrap (m + (1 - takesI t.op)) = m + (1 - takesI t.op) := by rw [wrap_small] <;> omega
        (all_goals (have E0 := @encT.eq_1))
        repeat' (first | refine one ?_ | (refine two ?_ ?_; all_goals (intro h; try simp only [Bool.not_eq_true', Bool.not_eq_false', reduceCtorEq] at h)) | fail)
        all_goals (try clear E0)
        · (simp only [go_sem, *])
          have hb : filterB f = false := run1_none (i := i + 1) (by rw [htk]; simp_all)
          rw [hb]
        · have h' := of_decide_eq_false h
          refine ⟨f.length - (i + 1), by omega, i + 1, m + (1 - takesI t.op), rfl, by omega, by omega, by omega, by rw [htk]; simp_all, ?_⟩
          simp only [clr, go_sem, hw]
        · (simp only [go_sem, *])
          have hb : filterB f = false := run1_none (i := i + 1) (by rw [htk]; simp_all)
          rw [hb]
      · have hd : decide ((i : Int) < (f.length : Int)) = false := by simp; omega
        clear ht
        (all_goals (have E0 := @encT.eq_1))
        repeat' (first | refine one ?_ | (refine two ?_ ?_; all_goals (intro h; try simp only [Bool.not_eq_true', Bool.not_eq_false', reduceCtorEq] at h)) | fail)
        all_goals (try clear E0)
        all_goals (
          (simp only [go_sem, *])
          have hall : run1 f 0 = some m := by rw [← hr, List.take_of_length_le (by omega)]
          simp_all [filterB]
          try (intro hx; omega))

noncomputable abbrev ic_impl_FilterOk := Con.mk (P := P) (f := 75) Tryz.call75 @c_impl_FilterOk
attribute [instance] ic_impl_FilterOk
theorem takesS_eq (o n : Int) (s : ByteArray) : takesS o n s = if termB o n s = true then takesI o else -1 := by
  unfold takesS termB takesI
  rcases opCases o with rfl | rfl | rfl | rfl | rfl | rfl | rfl | rfl | rfl | rfl | ⟨h1, h2, h3, h4, h5, h6, h7, h8, h9, h10⟩
  all_goals simp_all [Bool.and_comm]
theorem c_spec_FilterOk {s : Nat} (f : List TermV) (hf : f.length < 4611686018427387904) (ht : ∀ t ∈ f, t.fits) : Sound P 71 [.lst false s (f.map encT)] (.bool (filterB f)) := by
  refine snd_b hT Tryz.func71 Tryz.results71 Tryz.ntmps71 ?_
  repeat' (first | refine one ?_ | (refine two ?_ ?_; all_goals (intro h; try simp only [Bool.not_eq_true', Bool.not_eq_false', reduceCtorEq] at h)) | fail)
  · (simp only [go_sem, *])
    have h' := of_decide_eq_true h
    have hb : filterB f = false := by
      unfold filterB
      split
      · have hd : decide ((f.length : Int) ≤ 12) = false := by simp; omega
        rw [hd]; rfl
      · rfl
    rw [hb]
  · have h0 := of_decide_eq_false h
    clear h
    refine aw_loop [1, 5, 6, 7, 8, 9, 10, 11, 12, 13, 14, 15, 16, 17, 18, 19, 20, 21, 22, 23, 24, 25, 26, 27, 28, 29, 30, 31, 32, 33, 34, 35, 36, 37] (fun n S => ∃ (i : Nat) (m : Int), n = f.length - i ∧ i ≤ f.length ∧ 0 ≤ m ∧ m ≤ i ∧ run1 (f.take i) 0 = some m ∧ S = [.lst false s (f.map encT), .undef, .bool false, .int .i64 m, .int .i64 i, .undef, .undef, .undef, .undef, .undef, .undef, .undef, .undef, .undef, .undef, .undef, .undef, .undef, .undef, .undef, .undef, .undef, .undef, .undef, .undef, .undef, .undef, .undef, .undef, .undef, .undef, .undef, .undef, .undef, .undef, .undef, .undef, .undef]) f.length ?_ ?_
    · refine ⟨0, 0, by simp, by omega, by omega, by omega, by simp [run1], ?_⟩
      simp only [clr, go_sem]
      first | done | rfl
    · rintro n S ⟨i, m, hn, hi, hm0, hmi, hr, rfl⟩
      have hw : IntKind.i64.wrap ((i : Int) + 1) = ((i + 1 : Nat) : Int) := by rw [wrap_small] <;> omega
      by_cases hlt : i < f.length
      · have hd : decide ((i : Int) < (f.length : Int)) = true := by simp [hlt]
        obtain ⟨t, hti⟩ : ∃ t, f[i]? = some t := ⟨f[i], by simp [hlt]⟩
        have hfit : t.text.size < 4611686018427387904 := ht t (List.mem_of_getElem? hti)
        have htk := run1_take hti 0
        rw [hr] at htk
        simp only [step1] at htk
        clear ht
        obtain ⟨hk0, hk2⟩ := takesI_le t.op
        have hw1 : IntKind.i64.wrap (m - takesI t.op) = m - takesI t.op := by rw [wrap_small] <;> omega
        have hw2 : IntKind.i64.wrap (m - takesI t.op + 1) = m - takesI t.op + 1 := by rw [wrap_small] <;> omega
        have hk3 : decide (takesI t.op < 0) = false := by simp; omega
        have hs := takesS_eq t.op t.num t.text
        cases hb : termB t.op t.num t.text with
        | false =>
          rw [hb] at hs htk
          simp only [Bool.false_eq_true, if_false, false_and] at hs htk
          (all_goals (have E0 := @encT.eq_1))
          repeat' (first | refine one ?_ | (refine two ?_ ?_; all_goals (intro h; try simp only [Bool.not_eq_true', Bool.not_eq_false', reduceCtorEq] at h)) | fail)
          all_goals (try clear E0)
          (simp only [go_sem, *])
          rw [run1_none htk]
        | true =>
          rw [hb] at hs htk
          simp only [if_true, true_and] at hs htk
          by_cases hgt : m < takesI t.op
          · rw [if_neg (by simpa using hgt)] at htk
            have hg : decide (takesI t.op > m) = true := by simpa using hgt
            (all_goals (have E0 := @encT.eq_1))
            repeat' (first | refine one ?_ | (refine two ?_ ?_; all_goals (intro h; try simp only [Bool.not_eq_true', Bool.not_eq_false', reduceCtorEq] at h)) | fail)
            all_goals (try clear E0)
            (simp only [go_sem, *])
            rw [run1_none htk]
          · rw [if_pos hgt] at htk
            have hg : decide (takesI t.op > m) = false := by simpa using hgt
            (all_goals (have E0 := @encT.eq_1))
            repeat' (first | refine one ?_ | (refine two ?_ ?_; all_goals (intro h; try simp only [Bool.not_eq_true', Bool.not_eq_false', reduceCtorEq] at h)) | fail)
            all_goals (try clear E0)
            refine ⟨f.length - (i + 1), by omega, i + 1, m + (1 - takesI t.op), rfl, by omega, by omega, by omega, htk, ?_⟩
            simp only [clr, go_sem, hw]
            have e : m - takesI t.op + 1 = m + (1 - takesI t.op) := by omega
            rw [e]
      · have hd : decide ((i : Int) < (f.length : Int)) = false := by simp; omega
        clear ht
        (all_goals (have E0 := @encT.eq_1))
        repeat' (first | refine one ?_ | (refine two ?_ ?_; all_goals (intro h; try simp only [Bool.not_eq_true', Bool.not_eq_false', reduceCtorEq] at h)) | fail)
        all_goals (try clear E0)
        all_goals (
          (simp only [go_sem, *])
          have hall : run1 f 0 = some m := by rw [← hr, List.take_of_length_le (by omega)]
          simp_all [filterB]
          try (intro hx; omega))
noncomputable abbrev ic_spec_FilterOk := Con.mk (P := P) (f := 71) Tryz.call71 @c_spec_FilterOk
attribute [instance] ic_spec_FilterOk
end Go.Proofs.YtlgdijjkegeccaaGreat
