/- Contracts of the law's helpers: Sub. Contracts of the slices package at lists of impl.Sub. -/
import Derived.Test.YtlgdijjkegeccaaGreatKA
import Derived.Test.YtlgdijjkegeccaaGreatKG
import Derived.Test.YtlgdijjkegeccaaGreatKT
namespace Go.Proofs.YtlgdijjkegeccaaGreat
open Go Go.RowKit Go.Bv
set_option linter.unusedSimpArgs false
set_option linter.unusedVariables false
set_option maxRecDepth 4000
set_option maxHeartbeats 1000000
/-! The walks that end. -/
theorem sGlSub34 {p q : Prop} (k : q) (h : q → p := by
  first
  | exact shAL (by exact i_l (f := 68) 0 _)
  | exact i1
  | fail) : p := h k
theorem wGlSub34_0 {p : Prop} (h : p := by
  repeat' (first | refine sGlSub34 ?_ | (refine two ?_ ?_; all_goals (intro h; try simp only [Bool.not_eq_true', Bool.not_eq_false', reduceCtorEq] at h)) | fail)
  all_goals ((simp only [go_sem, *]); first | done | rfl)) : p := h
theorem wGlSub37_0 {p : Prop} (h : p := by
  exact wk) : p := h
theorem sGlSub30 {p q : Prop} (k : q) (h : q → p := by
  first
  | exact shAR 6 (by exact i_S hT [[], [], [0, 1], [0, 1, 2], [], [], [4, 5], [4, 5, 6], [0, 1, 2, 3, 4, 5, 6, 7], [0, 1, 2, 3, 4, 5, 6, 7, 8]] [17, 18, 19, 20, 21, 22, 23, 24, 25, 26])
  | exact i1
  | fail) : p := h k
structure SubV where
  id : Int
  start : Int
  cursor : Int
  got : Int
  lost : Int
  passed : Int
  filter : List TermV
def encSub (o : Bool) (x : SubV) : AV := .agg [.int .i64 x.id, .int .i64 x.start, .int .i64 x.cursor, .int .i64 x.got, .int .i64 x.lost, .int .i64 x.passed, .lst o 3 (x.filter.map encT)]
theorem ash_Sub (o : Bool) (x : SubV) : ash (encSub o x) = encSub false x := by simp only [encSub, ash, ashs, ashs_Term]
theorem plA_Sub (o : Bool) (x : SubV) : plA (encSub o x) = true := by simp only [encSub, plA, plAs, Bool.and_self, plAs_Term]
theorem noSh_Sub (x : SubV) : noSh (encSub true x) = true := by simp only [encSub, noSh, noShs, Bool.and_self, noShs_Term]
attribute [go_sem] ash_Sub plA_Sub noSh_Sub
def wSub (x : SubV) : Nat := wTermS x.filter
def okSub (x : SubV) : Prop := okTermS x.filter
def meSub (x : SubV) (k : Int) : SubV := { id := k, start := k + 1, cursor := k + 1 + 1, got := k + 1 + 1 + 1, lost := k + 1 + 1 + 1 + 1, passed := k + 1 + 1 + 1 + 1 + 1, filter := mkTermS x.filter (k + 1 + 1 + 1 + 1 + 1 + 1) }
def mwSub (x : SubV) : Nat := 6 + mwTermS x.filter
theorem mw10Sub (x : SubV) : mwSub x ≤ 10 * (1 + wSub x) := by
  have := mw10TermS x.filter
  simp only [mwSub, wSub]; omega
def mtSub (x : SubV) (k : Int) : SubV := { x with filter := mkTermS x.filter (k) }
def mtSubW (x : SubV) : Nat := mwTermS x.filter
theorem mt10Sub (x : SubV) : mtSubW x ≤ 10 * wSub x := by
  have := mw10TermS x.filter
  simp only [mtSubW, wSub]; omega
def wSubS (f : List SubV) : Nat := f.length + sumL wSub f
def okSubS (f : List SubV) : Prop := f.length < 4611686018427387904 ∧ ∀ x ∈ f, okSub x
def mkSubS (f : List SubV) (k : Int) : List SubV := mkL meSub mwSub f k
def mwSubS (f : List SubV) : Nat := sumL mwSub f
theorem mw10SubS (f : List SubV) : mwSubS f ≤ 10 * wSubS f := sum10 mw10Sub f
theorem ashs_Sub (o : Bool) (f : List SubV) : ashs (f.map (encSub o)) = f.map (encSub false) := ashs_map (g := (encSub o)) (h := (encSub false)) (fun x => ash_Sub o x) f
theorem plAs_Sub (o : Bool) (f : List SubV) : plAs (f.map (encSub o)) = true := plAs_map (g := (encSub o)) (fun x => plA_Sub o x) f
theorem alen_Sub (o : Bool) (f : List SubV) : ((f.map (encSub o)).all fun u => alen u == 7) = true := alen_map (g := (encSub o)) (fun x => rfl) f
theorem noShs_Sub (f : List SubV) : noShs (f.map (encSub true)) = true := noShs_map (g := (encSub true)) (fun x => noSh_Sub x) f
attribute [go_sem] ashs_Sub plAs_Sub alen_Sub noShs_Sub
def zeroSub : AV := .agg [.int .i64 0, .int .i64 0, .int .i64 0, .int .i64 0, .int .i64 0, .int .i64 0, .lst true 3 []]
theorem c_laws_szSub (x : SubV) (left : Int) {u : AV} (hu : u = encSub false x) (hb : okSub x) (h0 : decide (left < 0) = false) (h1 : left ≤ 1048576) : Sound P 40 [u, .int .i64 left] (.int .i64 (szW (wSub x) left)) := by
  subst hu
  have hp : 0 ≤ left := by simpa using h0
  have hb0 := hb
  simp only [okSub] at hb0
  have hl0 : szW (wTermS x.filter) left ≤ 1048576 := szW_le (by omega)
  refine snd_b hT Tryz.func40 Tryz.results40 Tryz.ntmps40 ?_
  (all_goals (have E0 := @encSub.eq_1))
  repeat' (first | refine one ?_ | (refine two ?_ ?_; all_goals (intro h; try simp only [Bool.not_eq_true', Bool.not_eq_false', reduceCtorEq] at h)) | fail)
  all_goals (try clear E0)
  all_goals (
    (simp only [go_sem, *])
    first
    | done
    | (have hT : wSub x = wTermS x.filter := rfl
       simp only [decide_eq_true_eq, decide_eq_false_iff_not, Option.some.injEq, AV.int.injEq, true_and] at *
       rcases szW_cases (wTermS x.filter) left with ⟨_, _⟩ | ⟨_, _⟩ <;> rcases szW_cases (wSub x) left with ⟨_, _⟩ | ⟨_, _⟩ <;> omega))
noncomputable abbrev ic_laws_szSub := Con.mk (P := P) (f := 40) Tryz.call40 @c_laws_szSub
attribute [instance] ic_laws_szSub
theorem c_laws_toSub (x : SubV) {u : AV} (hu : u = encSub false x) (hw : wSub x ≤ 4194304) : Sound P 49 [u] (encSub true x) := by
  subst hu
  have hw6 : wTermS x.filter ≤ 4194304 := by simp only [wSub] at hw; omega
  clear hw
  refine snd_b hT Tryz.func49 Tryz.results49 Tryz.ntmps49 ?_
  (all_goals (have E0 := @encSub.eq_1))
  repeat' (first | refine one ?_ | (refine two ?_ ?_; all_goals (intro h; try simp only [Bool.not_eq_true', Bool.not_eq_false', reduceCtorEq] at h)) | fail)
  all_goals (try clear E0)
  all_goals ((simp only [go_sem, *]); first | done | rfl)
noncomputable abbrev ic_laws_toSub := Con.mk (P := P) (f := 49) Tryz.call49 @c_laws_toSub
attribute [instance] ic_laws_toSub
theorem c_laws_eqSub (x : SubV) {u v : AV} (hu : u = encSub false x) (hv : v = encSub false x) (hw : wSub x ≤ 4194304) : Sound P 66 [u, v] (.bool true) := by
  subst hu hv
  have hw6 : wTermS x.filter ≤ 4194304 := by simp only [wSub] at hw; omega
  clear hw
  refine snd_b hT Tryz.func66 Tryz.results66 Tryz.ntmps66 ?_
  (all_goals (have E0 := @encSub.eq_1))
  repeat' (first | refine one ?_ | (refine two ?_ ?_; all_goals (intro h; try simp only [Bool.not_eq_true', Bool.not_eq_false', reduceCtorEq] at h)) | fail)
  all_goals (try clear E0)
  all_goals (simp only [go_sem, *])
noncomputable abbrev ic_laws_eqSub := Con.mk (P := P) (f := 66) Tryz.call66 @c_laws_eqSub
attribute [instance] ic_laws_eqSub
theorem c_laws_szSubS (f : List SubV) (left : Int) (hb : okSubS f) (h0 : decide (left < 0) = false) (h1 : left ≤ 1048576) : Sound P 13 [.lst false 7 (f.map (encSub false)), .int .i64 left] (.int .i64 (szW (wSubS f) left)) := by
  have hl := hb.1
  have hp : 0 ≤ left := by simpa using h0
  have hw : IntKind.i64.wrap (left - f.length) = left - f.length := by rw [wrap_small] <;> omega
  refine snd_b hT Tryz.func13 Tryz.results13 Tryz.ntmps13 ?_
  repeat' (first | refine one ?_ | (refine two ?_ ?_; all_goals (intro h; try simp only [Bool.not_eq_true', Bool.not_eq_false', reduceCtorEq] at h)) | fail)
  · (simp only [go_sem, *])
    have hall : szW (wSubS f) left = -1 := by rw [szW, if_neg]; simp only [wSubS]; simp only [decide_eq_true_eq] at h; omega
    first | done | rw [hall]
  have hlen : decide (left - f.length < 0) = false := h
  have hlen2 : (f.length : Int) ≤ left := by simp only [decide_eq_false_iff_not] at h; omega
  clear h
  refine aw_loop [2, 3, 6, 7, 8, 9, 10, 11, 12, 13, 14, 15, 16, 17, 18, 19, 20, 21, 22, 23, 24, 25, 26] (fun n S => ∃ i : Nat, n = f.length - i ∧ i ≤ f.length ∧ 0 ≤ left - f.length - (sumL wSub (f.take i) : Nat) ∧ S = [.lst false 7 (f.map (encSub false)), .int .i64 (left - f.length - (sumL wSub (f.take i) : Nat)), .undef, .undef, .int .i64 0, .int .i64 i, .undef, .undef, .undef, .undef, .undef, .undef, .undef, .undef, .undef, .undef, .undef, .undef, .undef, .undef, .undef, .undef, .undef, .undef, .undef, .undef, .undef]) f.length ?_ ?_
  · refine ⟨0, by simp, by omega, by simp [sumL]; omega, ?_⟩
    simp only [clr, go_sem]
    first | done | simp [sumL]
  · rintro n S ⟨i, hn, hi, hpos, rfl⟩
    have hwi : IntKind.i64.wrap ((i : Int) + 1) = ((i + 1 : Nat) : Int) := by rw [wrap_small] <;> omega
    by_cases hlt : i < f.length
    · have hd : decide ((i : Int) < (f.length : Int)) = true := by simp [hlt]
      obtain ⟨x, hx⟩ : ∃ x, f[i]? = some x := ⟨f[i], by simp [hlt]⟩
      have hok := hb.2 x (List.mem_of_getElem? hx)
      have hs := sumL_succ wSub hx
      have hle := sumL_le wSub f (i + 1)
      have hg0 : decide (left - f.length - (sumL wSub (f.take i) : Nat) < 0) = false := by simp; omega
      have hg1 : left - f.length - (sumL wSub (f.take i) : Nat) ≤ 1048576 := by omega
      clear hb
      by_cases hf : (wSub x : Int) ≤ left - f.length - (sumL wSub (f.take i) : Nat)
      · have he : szW (wSub x) (left - f.length - (sumL wSub (f.take i) : Nat)) = left - f.length - (sumL wSub (f.take (i + 1)) : Nat) := by rw [szW, if_pos hf]; omega
        have hgp : 0 ≤ left - f.length - (sumL wSub (f.take (i + 1)) : Nat) := by omega
        have hgn : decide (left - f.length - (sumL wSub (f.take (i + 1)) : Nat) < 0) = false := by simp; omega
        clear hs hle
        (all_goals (have E0 := @encSub.eq_1))
        repeat' (first | refine one ?_ | (refine two ?_ ?_; all_goals (intro h; try simp only [Bool.not_eq_true', Bool.not_eq_false', reduceCtorEq] at h)) | fail)
        all_goals (try clear E0)
        refine ⟨f.length - (i + 1), by omega, i + 1, rfl, by omega, hgp, ?_⟩
        simp only [clr, go_sem]
      · have he : szW (wSub x) (left - f.length - (sumL wSub (f.take i) : Nat)) = -1 := by rw [szW, if_neg hf]
        have hgn : decide ((-1 : Int) < 0) = true := by decide
        have hall : szW (wSubS f) left = -1 := by rw [szW, if_neg]; simp only [wSubS]; omega
        (all_goals (have E0 := @encSub.eq_1))
        repeat' (first | refine one ?_ | (refine two ?_ ?_; all_goals (intro h; try simp only [Bool.not_eq_true', Bool.not_eq_false', reduceCtorEq] at h)) | fail)
        all_goals (try clear E0)
        all_goals (simp only [go_sem, *])
    · have hd : decide ((i : Int) < (f.length : Int)) = false := by simp; omega
      have ht : f.take i = f := List.take_of_length_le (by omega)
      rw [ht] at hpos ⊢
      have hall : szW (wSubS f) left = left - f.length - (sumL wSub f : Nat) := by rw [szW, if_pos] <;> simp only [wSubS] <;> omega
      repeat' (first | refine one ?_ | (refine two ?_ ?_; all_goals (intro h; try simp only [Bool.not_eq_true', Bool.not_eq_false', reduceCtorEq] at h)) | fail)
      all_goals (simp only [go_sem, *])
noncomputable abbrev ic_laws_szSubS := Con.mk (P := P) (f := 13) Tryz.call13 @c_laws_szSubS
attribute [instance] ic_laws_szSubS
theorem c_laws_toSubS (f : List SubV) (hw : wSubS f ≤ 4194304) : Sound P 22 [.lst false 7 (f.map (encSub false))] (.lst true 7 (f.map (encSub true))) := by
  have hl : f.length ≤ 4194304 := Nat.le_trans (Nat.le_add_right _ _) hw
  refine snd_b hT Tryz.func22 Tryz.results22 Tryz.ntmps22 ?_
  repeat' (first | refine one ?_ | (refine two ?_ ?_; all_goals (intro h; try simp only [Bool.not_eq_true', Bool.not_eq_false', reduceCtorEq] at h)) | fail)
  refine aw_loop [1, 5, 6, 8, 9, 10, 11, 12, 13, 14, 15, 16, 17, 18, 19, 20, 21, 22] (fun n S => ∃ i : Nat, n = f.length - i ∧ i ≤ f.length ∧ S = [.lst false 7 (f.map (encSub false)), .undef, .lst true 7 [], .ref 7 [] 0 f.length, .int .i64 i, .undef, .undef, .lst true 7 (fillL (encSub true) zeroSub f i), .undef, .undef, .undef, .undef, .undef, .undef, .undef, .undef, .undef, .undef, .undef, .undef, .undef, .undef, .undef]) f.length ?_ ?_
  · refine ⟨0, by simp, by omega, ?_⟩
    simp only [clr, go_sem]
    first | done | simp [fillL, zeroSub]
  · rintro n S ⟨i, hn, hi, rfl⟩
    have hwi : IntKind.i64.wrap ((i : Int) + 1) = ((i + 1 : Nat) : Int) := by rw [wrap_small] <;> omega
    by_cases hlt : i < f.length
    · have hd : (i : Int) < (f.length : Int) := by omega
      obtain ⟨x, hx⟩ : ∃ x, f[i]? = some x := ⟨f[i], by simp [hlt]⟩
      have hwx : wSub x ≤ 4194304 := w_le wSub hx hw
      have hfi : (fillL (encSub true) zeroSub f i)[i]? = some (.agg [.int .i64 0, .int .i64 0, .int .i64 0, .int .i64 0, .int .i64 0, .int .i64 0, .lst true 3 []]) := fillL_at (encSub true) zeroSub hlt
      have hfs : (fillL (encSub true) zeroSub f i).set i (.agg [.int .i64 x.id, .int .i64 x.start, .int .i64 x.cursor, .int .i64 x.got, .int .i64 x.lost, .int .i64 x.passed, .lst true 3 (x.filter.map encT)]) = fillL (encSub true) zeroSub f (i + 1) := fillL_set (encSub true) zeroSub hx
      generalize fillL (encSub true) zeroSub f i = M at *
      clear hw
      (all_goals (have E0 := @encSub.eq_1))
      repeat' (first | refine one ?_ | (refine two ?_ ?_; all_goals (intro h; try simp only [Bool.not_eq_true', Bool.not_eq_false', reduceCtorEq] at h)) | fail)
      all_goals (try clear E0)
      refine ⟨f.length - (i + 1), by omega, i + 1, rfl, by omega, ?_⟩
      simp only [clr, go_sem]
    · have hd : decide ((i : Int) < (f.length : Int)) = false := by simp; omega
      have hall : fillL (encSub true) zeroSub f i = f.map (encSub true) := fillL_all (encSub true) zeroSub (by omega)
      rw [hall]
      clear hall
      repeat' (first | refine one ?_ | (refine two ?_ ?_; all_goals (intro h; try simp only [Bool.not_eq_true', Bool.not_eq_false', reduceCtorEq] at h)) | fail)
      all_goals (simp only [go_sem, *])
noncomputable abbrev ic_laws_toSubS := Con.mk (P := P) (f := 22) Tryz.call22 @c_laws_toSubS
attribute [instance] ic_laws_toSubS
theorem c_laws_eqSubS (f : List SubV) (hw : wSubS f ≤ 4194304) : Sound P 30 [.lst false 7 (f.map (encSub false)), .lst false 7 (f.map (encSub false))] (.bool true) := by
  have hl : f.length ≤ 4194304 := Nat.le_trans (Nat.le_add_right _ _) hw
  refine snd_b hT Tryz.func30 Tryz.results30 Tryz.ntmps30 ?_
  repeat' (first | refine sGlSub30 ?_ | (refine two ?_ ?_; all_goals (intro h; try simp only [Bool.not_eq_true', Bool.not_eq_false', reduceCtorEq] at h)) | fail)
  refine aw_loop [2, 3, 6, 7, 8, 9, 10, 11, 12, 13, 14, 15, 16, 17, 18, 19, 20, 21, 22, 23, 24, 25, 26] (fun n S => ∃ i : Nat, n = f.length - i ∧ i ≤ f.length ∧ S = [.lst false 7 (f.map (encSub false)), .lst false 7 (f.map (encSub false)), .undef, .undef, .bool false, .int .i64 i, .undef, .undef, .undef, .undef, .undef, .undef, .undef, .undef, .undef, .undef, .undef, .undef, .undef, .undef, .undef, .undef, .undef, .undef, .undef, .undef, .undef]) f.length ?_ ?_
  · refine ⟨0, by simp, by omega, ?_⟩
    simp only [clr, go_sem]
    first | done | rfl
  · rintro n S ⟨i, hn, hi, rfl⟩
    have hwi : IntKind.i64.wrap ((i : Int) + 1) = ((i + 1 : Nat) : Int) := by rw [wrap_small] <;> omega
    by_cases hlt : i < f.length
    · have hd : decide ((i : Int) < (f.length : Int)) = true := by simp [hlt]
      obtain ⟨x, hx⟩ : ∃ x, f[i]? = some x := ⟨f[i], by simp [hlt]⟩
      have hwx : wSub x ≤ 4194304 := w_le wSub hx hw
      clear hw
      (all_goals (have E0 := @encSub.eq_1))
      repeat' (first | refine sGlSub30 ?_ | (refine two ?_ ?_; all_goals (intro h; try simp only [Bool.not_eq_true', Bool.not_eq_false', reduceCtorEq] at h)) | fail)
      all_goals (try clear E0)
      refine ⟨f.length - (i + 1), by omega, i + 1, rfl, by omega, ?_⟩
      simp only [clr, go_sem]
    · have hd : decide ((i : Int) < (f.length : Int)) = false := by simp; omega
      repeat' (first | refine sGlSub30 ?_ | (refine two ?_ ?_; all_goals (intro h; try simp only [Bool.not_eq_true', Bool.not_eq_false', reduceCtorEq] at h)) | fail)
      all_goals (simp only [go_sem, *])
noncomputable abbrev ic_laws_eqSubS := Con.mk (P := P) (f := 30) Tryz.call30 @c_laws_eqSubS
attribute [instance] ic_laws_eqSubS
-- LENT m_laws_markSubS 0
theorem m_laws_markSubS (f : List SubV) (k : Int) (hw : wSubS f ≤ 4194304) (h0 : 0 ≤ k) (h1 : k + (mwSubS f : Nat) ≤ 1099511627776) :
    SoundM P 34 [.lst true 7 (f.map (encSub true)), .int .i64 k] 0 (.int .i64 (k + (mwSubS f : Nat))) (.lst true 7 ((mkSubS f k).map (encSub true))) := by
  have hl : f.length ≤ 4194304 := Nat.le_trans (Nat.le_add_right _ _) hw
  have h10 := mw10SubS f
  refine snd_M hT Tryz.func34 Tryz.results34 Tryz.ntmps34 ?_
  repeat' (first | refine sGlSub34 ?_ | (refine two ?_ ?_; all_goals (intro h; try simp only [Bool.not_eq_true', Bool.not_eq_false', reduceCtorEq] at h)) | fail)
  refine aw_loop [2, 3, 6, 7, 8, 9, 10, 11, 12, 13, 14, 15, 16, 17, 18, 19, 20, 21, 22, 23, 24, 25, 26, 27, 28, 29, 30, 31, 32, 33, 34, 35, 36, 37, 38, 39, 40, 41, 42, 43, 44, 45, 46, 47, 48, 49, 50, 51, 52, 53, 54, 55, 56, 57, 58, 59, 60, 61] (fun n S => ∃ i : Nat, n = f.length - i ∧ i ≤ f.length ∧ S = [.lst true 7 ((mkI meSub mwSub f i k).map (encSub true)), .int .i64 (k + (sumL mwSub (f.take i) : Nat)), .undef, .undef, .int .i64 0, .int .i64 i, .undef, .undef, .undef, .undef, .undef, .undef, .undef, .undef, .undef, .undef, .undef, .undef, .undef, .undef, .undef, .undef, .undef, .undef, .undef, .undef, .undef, .undef, .undef, .undef, .undef, .undef, .undef, .undef, .undef, .undef, .undef, .undef, .undef, .undef, .undef, .undef, .undef, .undef, .undef, .undef, .undef, .undef, .undef, .undef, .undef, .undef, .undef, .undef, .undef, .undef, .undef, .undef, .undef, .undef, .undef, .undef]) f.length ?_ ?_
  · refine ⟨0, by simp, by omega, ?_⟩
    simp only [clr, go_sem]
    first | done | simp [mkI_zero, sumL]
  · rintro n S ⟨i, hn, hi, rfl⟩
    have hwi : IntKind.i64.wrap ((i : Int) + 1) = ((i + 1 : Nat) : Int) := by rw [wrap_small] <;> omega
    by_cases hlt : i < f.length
    · have hd : (i : Int) < (f.length : Int) := by omega
      obtain ⟨x, hx⟩ : ∃ x, f[i]? = some x := ⟨f[i], by simp [hlt]⟩
      have hwx : wSub x ≤ 4194304 := w_le wSub hx hw
      have hs := sumL_succ mwSub hx
      have hle := sumL_le mwSub f (i + 1)
      simp only [mwSubS] at h10 h1
      have hlen : ((mkI meSub mwSub f i k).map (encSub true)).length = f.length := by rw [List.length_map, mkI_len]
      have hat : ((mkI meSub mwSub f i k).map (encSub true))[i]? = some (.agg [.int .i64 x.id, .int .i64 x.start, .int .i64 x.cursor, .int .i64 x.got, .int .i64 x.lost, .int .i64 x.passed, .lst true 3 (x.filter.map encT)]) := by rw [List.getElem?_map, mkI_at _ _ hx]; rfl
      have hset : ((mkI meSub mwSub f i k).map (encSub true)).set i ((encSub true) (meSub x (k + (sumL mwSub (f.take i) : Nat)))) = (mkI meSub mwSub f (i + 1) k).map (encSub true) := by rw [← List.map_set, mkI_set _ _ hx]
      have hil : i < ((mkI meSub mwSub f i k).map (encSub true)).length := by omega
      have s1 : ∀ v, (((mkI meSub mwSub f i k).map (encSub true)).set i v)[i]? = some v := fun v => List.getElem?_set_self hil
      have hpM : plAs ((mkI meSub mwSub f i k).map (encSub true)) = true := plAs_Sub true _
      generalize (mkI meSub mwSub f i k).map (encSub true) = M at *
      obtain ⟨k0, hk0⟩ : ∃ k0 : Int, k0 = k + (sumL mwSub (f.take i) : Nat) := ⟨_, rfl⟩
      rw [← hk0] at hset ⊢
      obtain ⟨k1, hk1⟩ : ∃ k1 : Int, k1 = k0 + 1 := ⟨_, rfl⟩
      obtain ⟨k2, hk2⟩ : ∃ k2 : Int, k2 = k1 + 1 := ⟨_, rfl⟩
      obtain ⟨k3, hk3⟩ : ∃ k3 : Int, k3 = k2 + 1 := ⟨_, rfl⟩
      obtain ⟨k4, hk4⟩ : ∃ k4 : Int, k4 = k3 + 1 := ⟨_, rfl⟩
      obtain ⟨k5, hk5⟩ : ∃ k5 : Int, k5 = k4 + 1 := ⟨_, rfl⟩
      obtain ⟨k6, hk6⟩ : ∃ k6 : Int, k6 = k5 + 1 := ⟨_, rfl⟩
      obtain ⟨k7, hk7⟩ : ∃ k7 : Int, k7 = k6 + (mwTermS x.filter : Nat) := ⟨_, rfl⟩
      have hend : k + (sumL mwSub (f.take (i + 1)) : Nat) = k7 := by rw [hs]; simp only [mwSub]; omega
      have hk1b : k7 ≤ 1099511627776 := by omega
      have hwk1 : IntKind.i64.wrap (k0 + 1) = k1 := by rw [wrap_small] <;> omega
      have hwk2 : IntKind.i64.wrap (k1 + 1) = k2 := by rw [wrap_small] <;> omega
      have hwk3 : IntKind.i64.wrap (k2 + 1) = k3 := by rw [wrap_small] <;> omega
      have hwk4 : IntKind.i64.wrap (k3 + 1) = k4 := by rw [wrap_small] <;> omega
      have hwk5 : IntKind.i64.wrap (k4 + 1) = k5 := by rw [wrap_small] <;> omega
      have hwk6 : IntKind.i64.wrap (k5 + 1) = k6 := by rw [wrap_small] <;> omega
      have hwk7 : k6 + (mwTermS x.filter : Nat) = k7 := hk7.symm
      have hnk7 : 0 ≤ k6 := by omega
      have hck7 : k6 + (mwTermS x.filter : Nat) ≤ 1099511627776 := by omega
      have hyk7 : wTermS x.filter ≤ 4194304 := by simp only [wSub] at hwx; omega
      have hset2 : M.set i (.agg [.int .i64 k0, .int .i64 k1, .int .i64 k2, .int .i64 k3, .int .i64 k4, .int .i64 k5, .lst true 3 ((mkTermS x.filter k6).map encT)]) = (mkI meSub mwSub f (i + 1) k).map (encSub true) := by
        rw [← hset]; congr 1 <;> (simp only [encSub, meSub]; first | done | (subst_vars; rfl))
      clear hset h10 hw hs hle hk0 hk1 hk2 hk3 hk4 hk5 hk6 hk7
      (all_goals (have E0 := @encSub.eq_1))
      (all_goals (have E1 := @List.set_set AV))
      repeat' (first | refine sGlSub34 ?_ | (refine two ?_ ?_; all_goals (intro h; try simp only [Bool.not_eq_true', Bool.not_eq_false', reduceCtorEq] at h)) | fail)
      all_goals (try clear E0 E1)
      refine ⟨f.length - (i + 1), by omega, i + 1, rfl, by omega, ?_⟩
      simp only [clr, go_sem, *]
    · have hd : decide ((i : Int) < (f.length : Int)) = false := by simp; omega
      have hall : mkI meSub mwSub f i k = mkSubS f k := mkI_all _ _ (by omega)
      have ht : f.take i = f := List.take_of_length_le (by omega)
      have hlen : (mkSubS f k).length = f.length := mkL_len _ _ _ _
      rw [hall, ht]
      clear hall ht
      exact wGlSub34_0
noncomputable abbrev im_laws_markSubS := ConL.mk (P := P) (f := 34) (t := 0) Tryz.call34 @m_laws_markSubS
attribute [instance] im_laws_markSubS
theorem c_laws_heldSubS (f : List SubV) (k : Int) (hw : wSubS f ≤ 4194304) (h0 : 0 ≤ k) (h1 : k + (mwSubS f : Nat) ≤ 1099511627776) :
    Sound P 37 [.lst false 7 ((mkSubS f k).map (encSub false)), .int .i64 k] (.int .i64 (k + (mwSubS f : Nat))) := by
  have hl : f.length ≤ 4194304 := Nat.le_trans (Nat.le_add_right _ _) hw
  have h10 := mw10SubS f
  have hlen : (mkSubS f k).length = f.length := mkL_len _ _ _ _
  refine snd_b hT Tryz.func37 Tryz.results37 Tryz.ntmps37 ?_
  repeat' (first | refine one ?_ | (refine two ?_ ?_; all_goals (intro h; try simp only [Bool.not_eq_true', Bool.not_eq_false', reduceCtorEq] at h)) | fail)
  refine aw_loop [2, 3, 6, 7, 8, 9, 10, 11, 12, 13, 14, 15, 16, 17, 18, 19, 20, 21, 22, 23, 24, 25, 26, 27, 28, 29, 30, 31, 32, 33, 34, 35, 36, 37, 38, 39, 40, 41, 42, 43, 44, 45, 46, 47, 48, 49, 50, 51, 52, 53, 54, 55, 56, 57, 58, 59, 60, 61, 62, 63, 64, 65, 66, 67, 68, 69, 70, 71, 72, 73, 74, 75] (fun n S => ∃ i : Nat, n = f.length - i ∧ i ≤ f.length ∧ S = [.lst false 7 ((mkSubS f k).map (encSub false)), .int .i64 (k + (sumL mwSub (f.take i) : Nat)), .undef, .undef, .int .i64 0, .int .i64 i, .undef, .undef, .undef, .undef, .undef, .undef, .undef, .undef, .undef, .undef, .undef, .undef, .undef, .undef, .undef, .undef, .undef, .undef, .undef, .undef, .undef, .undef, .undef, .undef, .undef, .undef, .undef, .undef, .undef, .undef, .undef, .undef, .undef, .undef, .undef, .undef, .undef, .undef, .undef, .undef, .undef, .undef, .undef, .undef, .undef, .undef, .undef, .undef, .undef, .undef, .undef, .undef, .undef, .undef, .undef, .undef, .undef, .undef, .undef, .undef, .undef, .undef, .undef, .undef, .undef, .undef, .undef, .undef, .undef, .undef]) f.length ?_ ?_
  · refine ⟨0, by simp, by omega, ?_⟩
    simp only [clr, go_sem]
    first | done | simp [sumL]
  · rintro n S ⟨i, hn, hi, rfl⟩
    have hwi : IntKind.i64.wrap ((i : Int) + 1) = ((i + 1 : Nat) : Int) := by rw [wrap_small] <;> omega
    by_cases hlt : i < f.length
    · have hd : decide ((i : Int) < (f.length : Int)) = true := by simp [hlt]
      obtain ⟨x, hx⟩ : ∃ x, f[i]? = some x := ⟨f[i], by simp [hlt]⟩
      have hwx : wSub x ≤ 4194304 := w_le wSub hx hw
      have hs := sumL_succ mwSub hx
      have hle := sumL_le mwSub f (i + 1)
      simp only [mwSubS] at h10 h1
      have hat : (mkSubS f k)[i]? = some (meSub x (k + (sumL mwSub (f.take i) : Nat))) := mkL_at _ _ hx k
      obtain ⟨k0, hk0⟩ : ∃ k0 : Int, k0 = k + (sumL mwSub (f.take i) : Nat) := ⟨_, rfl⟩
      rw [← hk0] at hat ⊢
      obtain ⟨k1, hk1⟩ : ∃ k1 : Int, k1 = k0 + 1 := ⟨_, rfl⟩
      obtain ⟨k2, hk2⟩ : ∃ k2 : Int, k2 = k1 + 1 := ⟨_, rfl⟩
      obtain ⟨k3, hk3⟩ : ∃ k3 : Int, k3 = k2 + 1 := ⟨_, rfl⟩
      obtain ⟨k4, hk4⟩ : ∃ k4 : Int, k4 = k3 + 1 := ⟨_, rfl⟩
      obtain ⟨k5, hk5⟩ : ∃ k5 : Int, k5 = k4 + 1 := ⟨_, rfl⟩
      obtain ⟨k6, hk6⟩ : ∃ k6 : Int, k6 = k5 + 1 := ⟨_, rfl⟩
      obtain ⟨k7, hk7⟩ : ∃ k7 : Int, k7 = k6 + (mwTermS x.filter : Nat) := ⟨_, rfl⟩
      have hend : k + (sumL mwSub (f.take (i + 1)) : Nat) = k7 := by rw [hs]; simp only [mwSub]; omega
      have hwk1 : IntKind.i64.wrap (k0 + 1) = k1 := by rw [wrap_small] <;> omega
      have hwk2 : IntKind.i64.wrap (k1 + 1) = k2 := by rw [wrap_small] <;> omega
      have hwk3 : IntKind.i64.wrap (k2 + 1) = k3 := by rw [wrap_small] <;> omega
      have hwk4 : IntKind.i64.wrap (k3 + 1) = k4 := by rw [wrap_small] <;> omega
      have hwk5 : IntKind.i64.wrap (k4 + 1) = k5 := by rw [wrap_small] <;> omega
      have hwk6 : IntKind.i64.wrap (k5 + 1) = k6 := by rw [wrap_small] <;> omega
      have hwk7 : k6 + (mwTermS x.filter : Nat) = k7 := hk7.symm
      have hnk7 : 0 ≤ k6 := by omega
      have hck7 : k6 + (mwTermS x.filter : Nat) ≤ 1099511627776 := by omega
      have hgk7 : decide (k7 < 0) = false := by simp; omega
      have hyk7 : wTermS x.filter ≤ 4194304 := by simp only [wSub] at hwx; omega
      have hme : meSub x k0 = { id := k0, start := k1, cursor := k2, got := k3, lost := k4, passed := k5, filter := mkTermS x.filter k6 } := by simp only [meSub]; first | done | (subst_vars; rfl)
      rw [hme] at hat
      clear h10 hw hme hs hle hk0 hk1 hk2 hk3 hk4 hk5 hk6 hk7
      (all_goals (have E0 := @encSub.eq_1))
      repeat' (first | refine one ?_ | (refine two ?_ ?_; all_goals (intro h; try simp only [Bool.not_eq_true', Bool.not_eq_false', reduceCtorEq] at h)) | fail)
      all_goals (try clear E0)
      refine ⟨f.length - (i + 1), by omega, i + 1, rfl, by omega, ?_⟩
      simp only [clr, go_sem, *]
    · have hd : decide ((i : Int) < (f.length : Int)) = false := by simp; omega
      have ht : f.take i = f := List.take_of_length_le (by omega)
      rw [ht]
      clear ht
      exact wGlSub37_0
noncomputable abbrev ic_laws_heldSubS := Con.mk (P := P) (f := 37) Tryz.call37 @c_laws_heldSubS
attribute [instance] ic_laws_heldSubS
end Go.Proofs.YtlgdijjkegeccaaGreat
namespace Go.Proofs.YtlgdijjkegeccaaGreat
open Go Go.RowKit Go.Bv
set_option linter.unusedSimpArgs false
set_option linter.unusedVariables false
set_option maxRecDepth 4000
set_option maxHeartbeats 1000000
theorem c_slices_IndexFunc_impl_Sub_impl_Sub {g : Nat} {us : List AV} (f : List SubV) (p : SubV → Bool) (hp : ∀ x ∈ f, Sound P g ((encSub false) x :: us) (.bool (p x))) (hg : ∀ vs w, (callFunc g vs).run P w = .ok (.enter g vs) w) (hus : ipsA us = true) (hl : f.length < 4611686018427387904) :
    Sound P 90 [.lst false 7 (f.map (encSub false)), .fn g us] (.int .i64 (idxP p f)) := by
  have hsn := asnaps_ips hus
  have hna := noAgg_ips hus
  have hpu := ips_pl hus
  have hmu := fun d => plAs_men d us hpu
  have hhu := fun r q => plAs_hit r q us hpu
  have hdu := fun r => plAs_deep r us hpu
  have hvu : ∀ t q i, aviews t q i us = us := ips_view hus
  refine snd_b hT Tryz.func90 Tryz.results90 Tryz.ntmps90 ?_
  repeat' (first
  | with_reducible first | refine aw_seq ?_ | refine aw_block ?_ | refine aw_skip ?_ | refine aw_exit ?_
  | with_reducible first | refine aw_ret ?_ | refine thenA_n ?_ | refine thenA_r ?_ | refine thenA_x ?_ | refine blockA_n ?_ | refine blockA_r ?_ | refine blockA_e ?_ | refine blockA_x (by decide) ?_ | refine ends_r ?_ | refine ends_n ?_ | refine ends_rM ?_ | refine ends_nM ?_ | refine aw_reg ?_
  | with_reducible refine al_nil ?_
  | (with_reducible apply al_s hT true
     · first | exact gchk_none rfl | simp only [go_sem, *]
     · simp only [go_sem, hmu, hhu, *]; first | done | with_reducible rfl)
  )
  refine aw_loop [2, 3, 5, 9, 10, 11, 12, 13, 14, 15, 16, 17, 18] (fun n S => ∃ i : Nat, n = f.length - i ∧ i ≤ f.length ∧ AheadP p f i ∧ S = [.lst false 7 (f.map (encSub false)), .fn g us, .undef, .undef, .int .i64 0, .undef, .lst false 7 (f.map (encSub false)), .int .i64 f.length, .int .i64 i, .undef, .undef, .undef, .undef, .undef, .undef, .undef, .undef, .undef, .undef]) f.length ?_ ?_
  · refine ⟨0, by simp, by omega, .zero, ?_⟩
    simp only [clr, go_sem, hmu, hhu]
    first | done | rfl
  · rintro n S ⟨i, hn, hi, ha, rfl⟩
    have hwi : IntKind.i64.wrap ((i : Int) + 1) = ((i + 1 : Nat) : Int) := by rw [wrap_small] <;> omega
    by_cases hlt : i < f.length
    · have hd : decide ((i : Int) < (f.length : Int)) = true := by simp [hlt]
      obtain ⟨y, hy⟩ : ∃ y, f[i]? = some y := ⟨f[i], by simp [hlt]⟩
      have hpy := hp y (List.mem_of_getElem? hy)
      simp only [encSub] at hpy
      clear hp
      repeat' (first
      | with_reducible first | refine aw_seq ?_ | refine aw_block ?_ | refine aw_skip ?_ | refine aw_exit ?_
      | with_reducible first | refine aw_ret ?_ | refine thenA_n ?_ | refine thenA_r ?_ | refine thenA_x ?_ | refine blockA_n ?_ | refine blockA_r ?_ | refine blockA_e ?_ | refine blockA_x (by decide) ?_ | refine ends_r ?_ | refine ends_n ?_ | refine ends_rM ?_ | refine ends_nM ?_ | refine aw_reg ?_
      | with_reducible refine al_nil ?_
      | (with_reducible apply aw_cond
         · simp only [go_sem, *]; with_reducible rfl
         all_goals (intro h; try simp only [Bool.not_eq_true', Bool.not_eq_false', reduceCtorEq] at h))
      | (with_reducible apply al_callv
         · exact gchk_none rfl
         · rfl
         · simp only [go_sem, encSub, hmu, hhu, *]; with_reducible rfl
         · assumption
         · assumption
         · simp only [go_sem, encSub, hmu, hhu, *]; with_reducible rfl
         · simp only [go_sem, encSub, hmu, hhu, *]; with_reducible rfl
         · assumption
         · simp only [go_sem]
         · simp only [go_sem, hmu, hhu]; with_reducible rfl)
      | (with_reducible apply al_s hT true
         · first | exact gchk_none rfl | simp only [go_sem, *]
         · simp only [go_sem, encSub, hmu, hhu, *]; first | done | with_reducible rfl)
      )
      · (simp only [go_sem, *])
        rw [idxP_some hy h ha]
      · refine ⟨f.length - (i + 1), by omega, i + 1, rfl, by omega, ha.succ hy h, ?_⟩
        simp only [clr, go_sem, hmu, hhu]
    · have hd : decide ((i : Int) < (f.length : Int)) = false := by simp; omega
      clear hp
      repeat' (first
      | with_reducible first | refine aw_seq ?_ | refine aw_block ?_ | refine aw_skip ?_ | refine aw_exit ?_
      | with_reducible first | refine aw_ret ?_ | refine thenA_n ?_ | refine thenA_r ?_ | refine thenA_x ?_ | refine blockA_n ?_ | refine blockA_r ?_ | refine blockA_e ?_ | refine blockA_x (by decide) ?_ | refine ends_r ?_ | refine ends_n ?_ | refine ends_rM ?_ | refine ends_nM ?_ | refine aw_reg ?_
      | with_reducible refine al_nil ?_
      | (with_reducible apply aw_cond
         · simp only [go_sem, *]; with_reducible rfl
         all_goals (intro h; try simp only [Bool.not_eq_true', Bool.not_eq_false', reduceCtorEq] at h))
      | (with_reducible apply al_s hT true
         · first | exact gchk_none rfl | simp only [go_sem, *]
         · simp only [go_sem, hmu, hhu, *]; first | done | with_reducible rfl)
      )
      (simp only [go_sem, *])
      rw [idxP_none (i := i) (by omega) ha]
noncomputable abbrev ic_slices_IndexFunc_impl_Sub_impl_Sub := Con.mk (P := P) (f := 90) Tryz.call90 @c_slices_IndexFunc_impl_Sub_impl_Sub
attribute [instance] ic_slices_IndexFunc_impl_Sub_impl_Sub
theorem c_slices_Clone_impl_Sub_impl_Sub (f : List SubV) (hf : f.length ≤ 4194304) : Sound P 52 [.lst false 7 (f.map (encSub false))] (.lst true 7 (f.map (encSub false))) := by
  refine snd_b hT Tryz.func52 Tryz.results52 Tryz.ntmps52 ?_
  repeat' (first
  | (with_reducible apply al_isnil hT
     · exact gchk_none rfl
     · rfl
     · simp only [go_sem]; first | done | with_reducible rfl
     · simp only [go_sem, *]; with_reducible rfl
     · simp only [go_sem, *]; with_reducible rfl
     intro b hb
     with_reducible apply al_cast
     · simp only [go_sem]; with_reducible rfl)
  | refine oneF ?_ | (refine two ?_ ?_; all_goals (intro h; try simp only [Bool.not_eq_true', Bool.not_eq_false', reduceCtorEq] at h)) | fail)
  · have hf0 : f = [] := by
      have : f.length = 0 := by
        by_cases h0 : f.length = 0
        · exact h0
        · have := hb h0; rw [h] at this; cases this
      exact List.eq_nil_of_length_eq_zero this
    subst hf0
    (simp only [go_sem, *])
    first | done | rfl
  · (simp only [go_sem, *])
noncomputable abbrev ic_slices_Clone_impl_Sub_impl_Sub := Con.mk (P := P) (f := 52) Tryz.call52 @c_slices_Clone_impl_Sub_impl_Sub
attribute [instance] ic_slices_Clone_impl_Sub_impl_Sub
end Go.Proofs.YtlgdijjkegeccaaGreat
