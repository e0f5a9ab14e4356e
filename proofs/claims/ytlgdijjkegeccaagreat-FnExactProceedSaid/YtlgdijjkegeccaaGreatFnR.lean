/- Contracts: the parts of a ring. -/
import Derived.Test.YtlgdijjkegeccaaGreatFnY
import Derived.Test.YtlgdijjkegeccaaGreatKT
import Derived.Test.YtlgdijjkegeccaaGreatKM
import Derived.Test.YtlgdijjkegeccaaGreatKS
import Derived.Test.YtlgdijjkegeccaaGreatGlRing
namespace Go.Proofs.YtlgdijjkegeccaaGreat
open Go Go.RowKit Go.Bv
set_option linter.unusedSimpArgs false
set_option linter.unusedVariables false
set_option maxRecDepth 4000
set_option maxHeartbeats 1000000
/-! The walks that end. -/
theorem wFnR78_0 {p : Prop} (h : p := by
  have E0 := @encRing.eq_1
  refine snd_b hT Tryz.func78 Tryz.results78 Tryz.ntmps78 ?_
  exact wk) : p := h
theorem wFnR60_0 {p : Prop} (h : p := by
  have E0 := @encRing.eq_1
  exact wk) : p := h
theorem wFnR43_0 {p : Prop} (h : p := by
  have E0 := @encRing.eq_1
  have E1 := @encSub.eq_1
  refine snd_b hT Tryz.func43 Tryz.results43 Tryz.ntmps43 ?_
  exact wk) : p := h

/-- Where a subscription stands; -1: nowhere. -/
def atI (f : List SubV) (id : Int) : Int := idxP (fun s => s.id == id) f
theorem c_spec_l9At (r : RingV) (id : Int) {u : AV} (hu : u = encRing false r) (hr : okRing r) : Sound P 20 [u, .int .i64 id] (.int .i64 (atI r.subs id)) := by
  subst hu
  have hl : r.subs.length < 4611686018427387904 := hr.2.1.1
  refine snd_b hT Tryz.func20 Tryz.results20 Tryz.ntmps20 ?_
  (all_goals (have E0 := @encRing.eq_1))
  repeat' (first | refine one ?_ | (refine two ?_ ?_; all_goals (intro h; try simp only [Bool.not_eq_true', Bool.not_eq_false', reduceCtorEq] at h)) | fail)
  all_goals (try clear E0)
  refine aw_loop [3, 6, 7, 8, 9, 10, 11, 12, 13, 14, 15, 16, 17, 18, 19, 20, 21] (fun n S => ∃ i : Nat, n = r.subs.length - i ∧ i ≤ r.subs.length ∧ AheadP (fun s => s.id == id) r.subs i ∧ S = [encRing false r, .int .i64 id, .box (encRing false r), .undef, .int .i64 0, .int .i64 i, .undef, .undef, .undef, .undef, .undef, .undef, .undef, .undef, .undef, .undef, .undef, .undef, .undef, .undef, .undef, .undef]) r.subs.length ?_ ?_
  · refine ⟨0, by simp, by omega, .zero, ?_⟩
    simp only [clr, go_sem]
    first | done | rfl
  · rintro n S ⟨i, hn, hi, ha, rfl⟩
    have hwi : IntKind.i64.wrap ((i : Int) + 1) = ((i + 1 : Nat) : Int) := by rw [wrap_small] <;> omega
    by_cases hlt : i < r.subs.length
    · have hd : decide ((i : Int) < (r.subs.length : Int)) = true := by simp [hlt]
      obtain ⟨y, hy⟩ : ∃ y, r.subs[i]? = some y := ⟨r.subs[i], by simp [hlt]⟩
      (all_goals (have E0 := @encRing.eq_1))
      (all_goals (have E1 := @encSub.eq_1))
      repeat' (first | refine one ?_ | (refine two ?_ ?_; all_goals (intro h; try simp only [Bool.not_eq_true', Bool.not_eq_false', reduceCtorEq] at h)) | fail)
      all_goals (try clear E0 E1)
      · (simp only [go_sem, *])
        rw [atI, idxP_some hy h ha]
      · refine ⟨r.subs.length - (i + 1), by omega, i + 1, rfl, by omega, ha.succ hy h, ?_⟩
        simp only [clr, go_sem]
        first | done | rfl
    · have hd : decide ((i : Int) < (r.subs.length : Int)) = false := by simp; omega
      (all_goals (have E0 := @encRing.eq_1))
      repeat' (first | refine one ?_ | (refine two ?_ ?_; all_goals (intro h; try simp only [Bool.not_eq_true', Bool.not_eq_false', reduceCtorEq] at h)) | fail)
      all_goals (try clear E0)
      (simp only [go_sem, *])
      rw [atI, idxP_none (i := i) (by omega) ha]
noncomputable abbrev ic_spec_l9At := Con.mk (P := P) (f := 20) Tryz.call20 @c_spec_l9At
attribute [instance] ic_spec_l9At
theorem c_subAt_clo (s : SubV) (id : Int) : Sound P 91 [encSub false s, .ip (.int .i64 id)] (.bool (s.id == id)) := by
  refine snd_b hT Tryz.func91 Tryz.results91 Tryz.ntmps91 ?_
  (all_goals (have E0 := @encSub.eq_1))
  repeat' (first | refine one ?_ | (refine two ?_ ?_; all_goals (intro h; try simp only [Bool.not_eq_true', Bool.not_eq_false', reduceCtorEq] at h)) | fail)
  all_goals (try clear E0)
  all_goals (simp only [go_sem, *])
theorem c_impl_subAt (r : RingV) (id : Int) {u : AV} (hu : u = encRing false r) (hr : okRing r) : Sound P 78 [u, .int .i64 id] (.int .i64 (atI r.subs id)) := by
  subst hu
  have hl : r.subs.length < 4611686018427387904 := hr.2.1.1
  have hp : ∀ x ∈ r.subs, Sound P 91 (encSub false x :: [.ip (.int .i64 id)]) (.bool ((fun s : SubV => s.id == id) x)) := fun x _ => c_subAt_clo x id
  have hg := Tryz.call91
  have hus : ipsA [.ip (.int .i64 id)] = true := rfl
  have hc := c_slices_IndexFunc_impl_Sub_impl_Sub r.subs _ hp hg hus hl
  clear hp hg hus
  exact wFnR78_0

noncomputable abbrev ic_impl_subAt := Con.mk (P := P) (f := 78) Tryz.call78 @c_impl_subAt
attribute [instance] ic_impl_subAt
/-- The least cursor of the first, or the number sent. -/
def leastI (f : List SubV) (l : Int) : Int := f.foldl (fun l s => if s.cursor < l then s.cursor else l) l
theorem leastI_succ {f : List SubV} {i : Nat} {s : SubV} (h : f[i]? = some s) (l : Int) : leastI (f.take (i + 1)) l = if s.cursor < leastI (f.take i) l then s.cursor else leastI (f.take i) l := by
  unfold leastI
  rw [List.take_add_one, h, Option.toList_some, List.foldl_append]; rfl
/-- The oldest number that is kept. -/
def oldestI (r : RingV) : Int := if leastI r.subs r.sent > (if 0 > r.sent - r.cap then 0 else r.sent - r.cap) then leastI r.subs r.sent else (if 0 > r.sent - r.cap then 0 else r.sent - r.cap)
theorem c_impl_oldest (r : RingV) {u : AV} (hu : u = encRing false r) (hr : okRing r) (h1 : -9223372036854775808 ≤ r.sent - r.cap) (h2 : r.sent - r.cap ≤ 9223372036854775807) : Sound P 60 [u] (.int .i64 (oldestI r)) := by
  subst hu
  have hl : r.subs.length < 4611686018427387904 := hr.2.1.1
  have hwc : IntKind.i64.wrap (r.sent - r.cap) = r.sent - r.cap := by rw [wrap_small] <;> omega
  refine snd_b hT Tryz.func60 Tryz.results60 Tryz.ntmps60 ?_
  (all_goals (have E0 := @encRing.eq_1))
  repeat' (first | refine one ?_ | (refine two ?_ ?_; all_goals (intro h; try simp only [Bool.not_eq_true', Bool.not_eq_false', reduceCtorEq] at h)) | fail)
  all_goals (try clear E0)
  refine aw_loop [4, 5, 6, 7, 8, 12, 13, 14, 15, 16, 17, 18, 19, 20, 21, 22, 23, 24, 25, 26] (fun n S => ∃ i : Nat, n = r.subs.length - i ∧ i ≤ r.subs.length ∧ S = [encRing false r, .box (encRing false r), .int .i64 0, .int .i64 (leastI (r.subs.take i) r.sent), .undef, .undef, .undef, .undef, .undef, .lst false 7 (r.subs.map (encSub false)), .int .i64 r.subs.length, .int .i64 i, .undef, .undef, .undef, .undef, .undef, .undef, .undef, .undef, .undef, .undef, .undef, .undef, .undef, .undef, .undef]) r.subs.length ?_ ?_
  · refine ⟨0, by simp, by omega, ?_⟩
    simp only [clr, go_sem]
    first | done | rfl
  · rintro n S ⟨i, hn, hi, rfl⟩
    have hwi : IntKind.i64.wrap ((i : Int) + 1) = ((i + 1 : Nat) : Int) := by rw [wrap_small] <;> omega
    by_cases hlt : i < r.subs.length
    · have hd : decide ((i : Int) < (r.subs.length : Int)) = true := by simp [hlt]
      obtain ⟨y, hy⟩ : ∃ y, r.subs[i]? = some y := ⟨r.subs[i], by simp [hlt]⟩
      have hs := leastI_succ hy r.sent
      (all_goals (have E0 := @encRing.eq_1))
      (all_goals (have E1 := @encSub.eq_1))
      repeat' (first | refine one ?_ | (refine two ?_ ?_; all_goals (intro h; try simp only [Bool.not_eq_true', Bool.not_eq_false', reduceCtorEq] at h)) | fail)
      all_goals (try clear E0 E1)
      all_goals (
        refine ⟨r.subs.length - (i + 1), by omega, i + 1, rfl, by omega, ?_⟩
        rw [hs]
        simp only [clr, go_sem]
        first | done | rfl)
    · have hd : decide ((i : Int) < (r.subs.length : Int)) = false := by simp; omega
      have ht : r.subs.take i = r.subs := List.take_of_length_le (by omega)
      rw [ht]
      clear ht
      exact wFnR60_0
noncomputable abbrev ic_impl_oldest := Con.mk (P := P) (f := 60) Tryz.call60 @c_impl_oldest
attribute [instance] ic_impl_oldest
theorem c_spec_l9Oldest (r : RingV) {u : AV} (hu : u = encRing false r) (hr : okRing r) (h1 : -9223372036854775808 ≤ r.sent - r.cap) (h2 : r.sent - r.cap ≤ 9223372036854775807) : Sound P 44 [u] (.int .i64 (oldestI r)) := by
  subst hu
  have hl : r.subs.length < 4611686018427387904 := hr.2.1.1
  have hwc : IntKind.i64.wrap (r.sent - r.cap) = r.sent - r.cap := by rw [wrap_small] <;> omega
  refine snd_b hT Tryz.func44 Tryz.results44 Tryz.ntmps44 ?_
  (all_goals (have E0 := @encRing.eq_1))
  repeat' (first | refine one ?_ | (refine two ?_ ?_; all_goals (intro h; try simp only [Bool.not_eq_true', Bool.not_eq_false', reduceCtorEq] at h)) | fail)
  all_goals (try clear E0)
  refine aw_loop [5, 6, 7, 8, 9, 10, 11, 12, 13, 14, 15, 16, 17, 18, 19, 20, 21, 22, 23, 24, 25, 26, 27, 28, 29, 30, 31, 32, 33, 34, 35, 36, 37, 38, 39, 40, 41, 42] (fun n S => ∃ i : Nat, n = r.subs.length - i ∧ i ≤ r.subs.length ∧ S = [encRing false r, .box (encRing false r), .int .i64 0, .int .i64 (leastI (r.subs.take i) r.sent), .int .i64 i, .undef, .undef, .undef, .undef, .undef, .undef, .undef, .undef, .undef, .undef, .undef, .undef, .undef, .undef, .undef, .undef, .undef, .undef, .undef, .undef, .undef, .undef, .undef, .undef, .undef, .undef, .undef, .undef, .undef, .undef, .undef, .undef, .undef, .undef, .undef, .undef, .undef, .undef]) r.subs.length ?_ ?_
  · refine ⟨0, by simp, by omega, ?_⟩
    simp only [clr, go_sem]
    first | done | rfl
  · rintro n S ⟨i, hn, hi, rfl⟩
    have hwi : IntKind.i64.wrap ((i : Int) + 1) = ((i + 1 : Nat) : Int) := by rw [wrap_small] <;> omega
    by_cases hlt : i < r.subs.length
    · have hd : decide ((i : Int) < (r.subs.length : Int)) = true := by simp [hlt]
      obtain ⟨y, hy⟩ : ∃ y, r.subs[i]? = some y := ⟨r.subs[i], by simp [hlt]⟩
      have hs := leastI_succ hy r.sent
      (all_goals (have E0 := @encRing.eq_1))
      (all_goals (have E1 := @encSub.eq_1))
      repeat' (first | refine one ?_ | (refine two ?_ ?_; all_goals (intro h; try simp only [Bool.not_eq_true', Bool.not_eq_false', reduceCtorEq] at h)) | fail)
      all_goals (try clear E0 E1)
      all_goals (
        refine ⟨r.subs.length - (i + 1), by omega, i + 1, rfl, by omega, ?_⟩
        rw [hs]
        simp only [clr, go_sem]
        simp only [decide_eq_true_eq, decide_eq_false_iff_not] at h
        first | rw [if_pos h] | rw [if_neg h]
        first | done | rfl)
    · have hd : decide ((i : Int) < (r.subs.length : Int)) = false := by simp; omega
      have ht : r.subs.take i = r.subs := List.take_of_length_le (by omega)
      rw [ht]
      clear ht
      (all_goals (have E0 := @encRing.eq_1))
      repeat' (first | refine one ?_ | (refine two ?_ ?_; all_goals (intro h; try simp only [Bool.not_eq_true', Bool.not_eq_false', reduceCtorEq] at h)) | fail)
      all_goals (try clear E0)
      all_goals (
        (simp only [go_sem, *])
        simp only [decide_eq_true_eq, decide_eq_false_iff_not, oldestI, Option.some.injEq, AV.int.injEq, true_and] at *
        (repeat' split) <;> omega)

noncomputable abbrev ic_spec_l9Oldest := Con.mk (P := P) (f := 44) Tryz.call44 @c_spec_l9Oldest
attribute [instance] ic_spec_l9Oldest
/-- A subscription that is right, but for its number. -/
def subB (r : RingV) (s : SubV) : Bool :=
  decide (0 ≤ s.start ∧ s.start ≤ s.cursor ∧ s.cursor ≤ r.sent) && filterB s.filter && decide (0 ≤ s.got ∧ s.got ≤ s.cursor - s.start ∧ 0 ≤ s.lost ∧ s.lost ≤ s.cursor - s.start ∧ 0 ≤ s.passed ∧ s.passed ≤ s.cursor - s.start ∧ s.got + s.lost + s.passed = s.cursor - s.start)
theorem c_impl_subOk (r : RingV) (s : SubV) {u v : AV} (hu : u = encRing false r) (hv : v = encSub false s) (hs : okSub s) (hb : r.sent ≤ 1000000000) : Sound P 56 [u, v] (.bool (subB r s)) := by
  subst hu hv
  have hf : s.filter.length < 4611686018427387904 := hs.1
  have ht : ∀ t ∈ s.filter, t.fits := hs.2
  obtain ⟨F, hF⟩ : ∃ F, filterB s.filter = F := ⟨_, rfl⟩
  rcases (by omega : s.start < 0 ∨ (¬ s.start < 0 ∧ s.start > s.cursor) ∨ (¬ s.start < 0 ∧ ¬ s.start > s.cursor ∧ s.cursor > r.sent) ∨ (0 ≤ s.start ∧ s.start ≤ s.cursor ∧ s.cursor ≤ r.sent)) with hc | hc | hc | hc
  · skip
    have g0 : decide (s.start < 0) = true := decide_eq_true (by omega)
    have h6 : subB r s = false := by rw [subB, decide_eq_false (p := 0 ≤ s.start ∧ s.start ≤ s.cursor ∧ s.cursor ≤ r.sent) (by omega), Bool.false_and, Bool.false_and]
    refine snd_b hT Tryz.func56 Tryz.results56 Tryz.ntmps56 ?_
    (all_goals (have E0 := @encRing.eq_1))
    (all_goals (have E1 := @encSub.eq_1))
    repeat' (first | refine one ?_ | (refine two ?_ ?_; all_goals (intro h; try simp only [Bool.not_eq_true', Bool.not_eq_false', reduceCtorEq] at h)) | fail)
    all_goals (try clear E0 E1)
    all_goals ((simp only [go_sem, *]); first | done | (simp [h6]; done))
  · skip
    have g0 : decide (s.start < 0) = false := decide_eq_false (by omega)
    have g1 : decide (s.start > s.cursor) = true := decide_eq_true (by omega)
    have h6 : subB r s = false := by rw [subB, decide_eq_false (p := 0 ≤ s.start ∧ s.start ≤ s.cursor ∧ s.cursor ≤ r.sent) (by omega), Bool.false_and, Bool.false_and]
    refine snd_b hT Tryz.func56 Tryz.results56 Tryz.ntmps56 ?_
    (all_goals (have E0 := @encRing.eq_1))
    (all_goals (have E1 := @encSub.eq_1))
    repeat' (first | refine one ?_ | (refine two ?_ ?_; all_goals (intro h; try simp only [Bool.not_eq_true', Bool.not_eq_false', reduceCtorEq] at h)) | fail)
    all_goals (try clear E0 E1)
    all_goals ((simp only [go_sem, *]); first | done | (simp [h6]; done))
  · skip
    have g0 : decide (s.start < 0) = false := decide_eq_false (by omega)
    have g1 : decide (s.start > s.cursor) = false := decide_eq_false (by omega)
    have g2 : decide (s.cursor > r.sent) = true := decide_eq_true (by omega)
    have h6 : subB r s = false := by rw [subB, decide_eq_false (p := 0 ≤ s.start ∧ s.start ≤ s.cursor ∧ s.cursor ≤ r.sent) (by omega), Bool.false_and, Bool.false_and]
    refine snd_b hT Tryz.func56 Tryz.results56 Tryz.ntmps56 ?_
    (all_goals (have E0 := @encRing.eq_1))
    (all_goals (have E1 := @encSub.eq_1))
    repeat' (first | refine one ?_ | (refine two ?_ ?_; all_goals (intro h; try simp only [Bool.not_eq_true', Bool.not_eq_false', reduceCtorEq] at h)) | fail)
    all_goals (try clear E0 E1)
    all_goals ((simp only [go_sem, *]); first | done | (simp [h6]; done))
  · have hw1 : IntKind.i64.wrap (s.cursor - s.start) = s.cursor - s.start := by rw [wrap_small] <;> omega
    have g0 : decide (s.start < 0) = false := decide_eq_false (by omega)
    have g1 : decide (s.start > s.cursor) = false := decide_eq_false (by omega)
    have g2 : decide (s.cursor > r.sent) = false := decide_eq_false (by omega)
    cases F
    · have h6 : subB r s = false := by rw [subB, hF, Bool.and_false, Bool.false_and]
      refine snd_b hT Tryz.func56 Tryz.results56 Tryz.ntmps56 ?_
      (all_goals (have E0 := @encRing.eq_1))
      (all_goals (have E1 := @encSub.eq_1))
      repeat' (first | refine one ?_ | (refine two ?_ ?_; all_goals (intro h; try simp only [Bool.not_eq_true', Bool.not_eq_false', reduceCtorEq] at h)) | fail)
      all_goals (try clear E0 E1)
      all_goals ((simp only [go_sem, *]); first | done | (simp [h6]; done))
    rcases (by omega : ¬ (0 ≤ s.got ∧ s.got ≤ s.cursor - s.start) ∨ ((0 ≤ s.got ∧ s.got ≤ s.cursor - s.start) ∧ ¬ (0 ≤ s.lost ∧ s.lost ≤ s.cursor - s.start)) ∨ ((0 ≤ s.got ∧ s.got ≤ s.cursor - s.start) ∧ (0 ≤ s.lost ∧ s.lost ≤ s.cursor - s.start) ∧ ¬ (0 ≤ s.passed ∧ s.passed ≤ s.cursor - s.start)) ∨ ((0 ≤ s.got ∧ s.got ≤ s.cursor - s.start) ∧ (0 ≤ s.lost ∧ s.lost ≤ s.cursor - s.start) ∧ (0 ≤ s.passed ∧ s.passed ≤ s.cursor - s.start))) with hd | hd | hd | hd
    · skip
      have k0 : (decide (s.got ≥ 0) && decide (s.got ≤ s.cursor - s.start)) = false := by rw [Bool.and_eq_false_iff]; simp only [decide_eq_false_iff_not, ge_iff_le]; omega
      have h6 : subB r s = false := by rw [subB, decide_eq_false (p := 0 ≤ s.got ∧ s.got ≤ s.cursor - s.start ∧ 0 ≤ s.lost ∧ s.lost ≤ s.cursor - s.start ∧ 0 ≤ s.passed ∧ s.passed ≤ s.cursor - s.start ∧ s.got + s.lost + s.passed = s.cursor - s.start) (by omega), Bool.and_false]
      refine snd_b hT Tryz.func56 Tryz.results56 Tryz.ntmps56 ?_
      (all_goals (have E0 := @encRing.eq_1))
      (all_goals (have E1 := @encSub.eq_1))
      repeat' (first | refine one ?_ | (refine two ?_ ?_; all_goals (intro h; try simp only [Bool.not_eq_true', Bool.not_eq_false', reduceCtorEq] at h)) | fail)
      all_goals (try clear E0 E1)
      all_goals ((simp only [go_sem, *]); first | done | (simp [h6]; done))
    · skip
      have k0 : (decide (s.got ≥ 0) && decide (s.got ≤ s.cursor - s.start)) = true := by rw [Bool.and_eq_true]; simp only [decide_eq_true_eq, ge_iff_le]; omega
      have k1 : (decide (s.lost ≥ 0) && decide (s.lost ≤ s.cursor - s.start)) = false := by rw [Bool.and_eq_false_iff]; simp only [decide_eq_false_iff_not, ge_iff_le]; omega
      have h6 : subB r s = false := by rw [subB, decide_eq_false (p := 0 ≤ s.got ∧ s.got ≤ s.cursor - s.start ∧ 0 ≤ s.lost ∧ s.lost ≤ s.cursor - s.start ∧ 0 ≤ s.passed ∧ s.passed ≤ s.cursor - s.start ∧ s.got + s.lost + s.passed = s.cursor - s.start) (by omega), Bool.and_false]
      refine snd_b hT Tryz.func56 Tryz.results56 Tryz.ntmps56 ?_
      (all_goals (have E0 := @encRing.eq_1))
      (all_goals (have E1 := @encSub.eq_1))
      repeat' (first | refine one ?_ | (refine two ?_ ?_; all_goals (intro h; try simp only [Bool.not_eq_true', Bool.not_eq_false', reduceCtorEq] at h)) | fail)
      all_goals (try clear E0 E1)
      all_goals ((simp only [go_sem, *]); first | done | (simp [h6]; done))
    · skip
      have k0 : (decide (s.got ≥ 0) && decide (s.got ≤ s.cursor - s.start)) = true := by rw [Bool.and_eq_true]; simp only [decide_eq_true_eq, ge_iff_le]; omega
      have k1 : (decide (s.lost ≥ 0) && decide (s.lost ≤ s.cursor - s.start)) = true := by rw [Bool.and_eq_true]; simp only [decide_eq_true_eq, ge_iff_le]; omega
      have k2 : (decide (s.passed ≥ 0) && decide (s.passed ≤ s.cursor - s.start)) = false := by rw [Bool.and_eq_false_iff]; simp only [decide_eq_false_iff_not, ge_iff_le]; omega
      have h6 : subB r s = false := by rw [subB, decide_eq_false (p := 0 ≤ s.got ∧ s.got ≤ s.cursor - s.start ∧ 0 ≤ s.lost ∧ s.lost ≤ s.cursor - s.start ∧ 0 ≤ s.passed ∧ s.passed ≤ s.cursor - s.start ∧ s.got + s.lost + s.passed = s.cursor - s.start) (by omega), Bool.and_false]
      refine snd_b hT Tryz.func56 Tryz.results56 Tryz.ntmps56 ?_
      (all_goals (have E0 := @encRing.eq_1))
      (all_goals (have E1 := @encSub.eq_1))
      repeat' (first | refine one ?_ | (refine two ?_ ?_; all_goals (intro h; try simp only [Bool.not_eq_true', Bool.not_eq_false', reduceCtorEq] at h)) | fail)
      all_goals (try clear E0 E1)
      all_goals ((simp only [go_sem, *]); first | done | (simp [h6]; done))
    · have hw2 : IntKind.i64.wrap (s.got + s.lost) = s.got + s.lost := by rw [wrap_small] <;> omega
      have hw3 : IntKind.i64.wrap (s.got + s.lost + s.passed) = s.got + s.lost + s.passed := by rw [wrap_small] <;> omega
      have k0 : (decide (s.got ≥ 0) && decide (s.got ≤ s.cursor - s.start)) = true := by rw [Bool.and_eq_true]; simp only [decide_eq_true_eq, ge_iff_le]; omega
      have k1 : (decide (s.lost ≥ 0) && decide (s.lost ≤ s.cursor - s.start)) = true := by rw [Bool.and_eq_true]; simp only [decide_eq_true_eq, ge_iff_le]; omega
      have k2 : (decide (s.passed ≥ 0) && decide (s.passed ≤ s.cursor - s.start)) = true := by rw [Bool.and_eq_true]; simp only [decide_eq_true_eq, ge_iff_le]; omega
      have h6 : subB r s = decide (s.got + s.lost + s.passed = s.cursor - s.start) := by
        rw [subB, hF, decide_eq_true (p := 0 ≤ s.start ∧ s.start ≤ s.cursor ∧ s.cursor ≤ r.sent) hc]
        by_cases e : s.got + s.lost + s.passed = s.cursor - s.start
        · rw [decide_eq_true e, decide_eq_true (by omega)]; rfl
        · rw [decide_eq_false e, decide_eq_false (by omega)]; rfl
      have h7 : (s.got + s.lost + s.passed == s.cursor - s.start) = decide (s.got + s.lost + s.passed = s.cursor - s.start) := by
        by_cases e : s.got + s.lost + s.passed = s.cursor - s.start <;> simp [e]
      refine snd_b hT Tryz.func56 Tryz.results56 Tryz.ntmps56 ?_
      (all_goals (have E0 := @encRing.eq_1))
      (all_goals (have E1 := @encSub.eq_1))
      repeat' (first | refine one ?_ | (refine two ?_ ?_; all_goals (intro h; try simp only [Bool.not_eq_true', Bool.not_eq_false', reduceCtorEq] at h)) | fail)
      all_goals (try clear E0 E1)
      all_goals ((simp only [go_sem, *]); first | done | (simp [h6]; done))
noncomputable abbrev ic_impl_subOk := Con.mk (P := P) (f := 56) Tryz.call56 @c_impl_subOk
attribute [instance] ic_impl_subOk
set_option maxHeartbeats 8000000 in
theorem c_spec_l9SubOk (r : RingV) (s : SubV) {u v : AV} (hu : u = encRing false r) (hv : v = encSub false s) (hs : okSub s) (hb : r.sent ≤ 1000000000) (hn : 0 ≤ r.next) (hn2 : r.next ≤ 1000000000) :
    Sound P 43 [u, v] (.bool ((decide (s.id ≥ 0) && decide (s.id ≤ r.next - 1)) && subB r s)) := by
  subst hu hv
  have hf : s.filter.length < 4611686018427387904 := hs.1
  have ht : ∀ t ∈ s.filter, t.fits := hs.2
  have hwn : IntKind.i64.wrap (r.next - 1) = r.next - 1 := by rw [wrap_small] <;> omega
  obtain ⟨F, hF⟩ : ∃ F, filterB s.filter = F := ⟨_, rfl⟩
  cases hI : (decide (s.id ≥ 0) && decide (s.id ≤ r.next - 1))
  · skip
    exact wFnR43_0
  rw [Bool.true_and]
  rcases (by omega : s.start < 0 ∨ (¬ s.start < 0 ∧ s.start > s.cursor) ∨ (¬ s.start < 0 ∧ ¬ s.start > s.cursor ∧ s.cursor > r.sent) ∨ (0 ≤ s.start ∧ s.start ≤ s.cursor ∧ s.cursor ≤ r.sent)) with hc | hc | hc | hc
  · skip
    have g0 : decide (s.start < 0) = true := decide_eq_true (by omega)
    have h6 : subB r s = false := by rw [subB, decide_eq_false (p := 0 ≤ s.start ∧ s.start ≤ s.cursor ∧ s.cursor ≤ r.sent) (by omega), Bool.false_and, Bool.false_and]
    refine snd_b hT Tryz.func43 Tryz.results43 Tryz.ntmps43 ?_
    (all_goals (have E0 := @encRing.eq_1))
    (all_goals (have E1 := @encSub.eq_1))
    repeat' (first | refine one ?_ | (refine two ?_ ?_; all_goals (intro h; try simp only [Bool.not_eq_true', Bool.not_eq_false', reduceCtorEq] at h)) | fail)
    all_goals (try clear E0 E1)
    all_goals ((simp only [go_sem, *]); first | done | (simp [h6]; done))
  · skip
    have g0 : decide (s.start < 0) = false := decide_eq_false (by omega)
    have g1 : decide (s.start > s.cursor) = true := decide_eq_true (by omega)
    have h6 : subB r s = false := by rw [subB, decide_eq_false (p := 0 ≤ s.start ∧ s.start ≤ s.cursor ∧ s.cursor ≤ r.sent) (by omega), Bool.false_and, Bool.false_and]
    refine snd_b hT Tryz.func43 Tryz.results43 Tryz.ntmps43 ?_
    (all_goals (have E0 := @encRing.eq_1))
    (all_goals (have E1 := @encSub.eq_1))
    repeat' (first | refine one ?_ | (refine two ?_ ?_; all_goals (intro h; try simp only [Bool.not_eq_true', Bool.not_eq_false', reduceCtorEq] at h)) | fail)
    all_goals (try clear E0 E1)
    all_goals ((simp only [go_sem, *]); first | done | (simp [h6]; done))
  · skip
    have g0 : decide (s.start < 0) = false := decide_eq_false (by omega)
    have g1 : decide (s.start > s.cursor) = false := decide_eq_false (by omega)
    have g2 : decide (s.cursor > r.sent) = true := decide_eq_true (by omega)
    have h6 : subB r s = false := by rw [subB, decide_eq_false (p := 0 ≤ s.start ∧ s.start ≤ s.cursor ∧ s.cursor ≤ r.sent) (by omega), Bool.false_and, Bool.false_and]
    refine snd_b hT Tryz.func43 Tryz.results43 Tryz.ntmps43 ?_
    (all_goals (have E0 := @encRing.eq_1))
    (all_goals (have E1 := @encSub.eq_1))
    repeat' (first | refine one ?_ | (refine two ?_ ?_; all_goals (intro h; try simp only [Bool.not_eq_true', Bool.not_eq_false', reduceCtorEq] at h)) | fail)
    all_goals (try clear E0 E1)
    all_goals ((simp only [go_sem, *]); first | done | (simp [h6]; done))
  · have hw1 : IntKind.i64.wrap (s.cursor - s.start) = s.cursor - s.start := by rw [wrap_small] <;> omega
    have g0 : decide (s.start < 0) = false := decide_eq_false (by omega)
    have g1 : decide (s.start > s.cursor) = false := decide_eq_false (by omega)
    have g2 : decide (s.cursor > r.sent) = false := decide_eq_false (by omega)
    rcases (by omega : (s.got < 0) ∨ (¬ (s.got < 0) ∧ s.lost < 0) ∨ (¬ (s.got < 0) ∧ ¬ (s.lost < 0) ∧ s.passed < 0) ∨ (¬ (s.got < 0) ∧ ¬ (s.lost < 0) ∧ ¬ (s.passed < 0) ∧ ¬ s.got ≤ s.cursor - s.start) ∨ (¬ (s.got < 0) ∧ ¬ (s.lost < 0) ∧ ¬ (s.passed < 0) ∧ ¬ (¬ s.got ≤ s.cursor - s.start) ∧ ¬ s.lost ≤ s.cursor - s.start) ∨ (¬ (s.got < 0) ∧ ¬ (s.lost < 0) ∧ ¬ (s.passed < 0) ∧ ¬ (¬ s.got ≤ s.cursor - s.start) ∧ ¬ (¬ s.lost ≤ s.cursor - s.start) ∧ ¬ s.passed ≤ s.cursor - s.start) ∨ (¬ (s.got < 0) ∧ ¬ (s.lost < 0) ∧ ¬ (s.passed < 0) ∧ ¬ (¬ s.got ≤ s.cursor - s.start) ∧ ¬ (¬ s.lost ≤ s.cursor - s.start) ∧ ¬ (¬ s.passed ≤ s.cursor - s.start))) with hd | hd | hd | hd | hd | hd | hd
    · skip
      have k0 : decide (s.got < 0) = true := by simp only [decide_eq_true_eq, decide_eq_false_iff_not]; omega
      have h6 : subB r s = false := by rw [subB, decide_eq_false (p := 0 ≤ s.got ∧ s.got ≤ s.cursor - s.start ∧ 0 ≤ s.lost ∧ s.lost ≤ s.cursor - s.start ∧ 0 ≤ s.passed ∧ s.passed ≤ s.cursor - s.start ∧ s.got + s.lost + s.passed = s.cursor - s.start) (by omega), Bool.and_false]
      refine snd_b hT Tryz.func43 Tryz.results43 Tryz.ntmps43 ?_
      (all_goals (have E0 := @encRing.eq_1))
      (all_goals (have E1 := @encSub.eq_1))
      repeat' (first | refine one ?_ | (refine two ?_ ?_; all_goals (intro h; try simp only [Bool.not_eq_true', Bool.not_eq_false', reduceCtorEq] at h)) | fail)
      all_goals (try clear E0 E1)
      all_goals ((simp only [go_sem, *]); first | done | (simp [h6]; done))
    · skip
      have k0 : decide (s.got < 0) = false := by simp only [decide_eq_true_eq, decide_eq_false_iff_not]; omega
      have k1 : decide (s.lost < 0) = true := by simp only [decide_eq_true_eq, decide_eq_false_iff_not]; omega
      have h6 : subB r s = false := by rw [subB, decide_eq_false (p := 0 ≤ s.got ∧ s.got ≤ s.cursor - s.start ∧ 0 ≤ s.lost ∧ s.lost ≤ s.cursor - s.start ∧ 0 ≤ s.passed ∧ s.passed ≤ s.cursor - s.start ∧ s.got + s.lost + s.passed = s.cursor - s.start) (by omega), Bool.and_false]
      refine snd_b hT Tryz.func43 Tryz.results43 Tryz.ntmps43 ?_
      (all_goals (have E0 := @encRing.eq_1))
      (all_goals (have E1 := @encSub.eq_1))
      repeat' (first | refine one ?_ | (refine two ?_ ?_; all_goals (intro h; try simp only [Bool.not_eq_true', Bool.not_eq_false', reduceCtorEq] at h)) | fail)
      all_goals (try clear E0 E1)
      all_goals ((simp only [go_sem, *]); first | done | (simp [h6]; done))
    · skip
      have k0 : decide (s.got < 0) = false := by simp only [decide_eq_true_eq, decide_eq_false_iff_not]; omega
      have k1 : decide (s.lost < 0) = false := by simp only [decide_eq_true_eq, decide_eq_false_iff_not]; omega
      have k2 : decide (s.passed < 0) = true := by simp only [decide_eq_true_eq, decide_eq_false_iff_not]; omega
      have h6 : subB r s = false := by rw [subB, decide_eq_false (p := 0 ≤ s.got ∧ s.got ≤ s.cursor - s.start ∧ 0 ≤ s.lost ∧ s.lost ≤ s.cursor - s.start ∧ 0 ≤ s.passed ∧ s.passed ≤ s.cursor - s.start ∧ s.got + s.lost + s.passed = s.cursor - s.start) (by omega), Bool.and_false]
      refine snd_b hT Tryz.func43 Tryz.results43 Tryz.ntmps43 ?_
      (all_goals (have E0 := @encRing.eq_1))
      (all_goals (have E1 := @encSub.eq_1))
      repeat' (first | refine one ?_ | (refine two ?_ ?_; all_goals (intro h; try simp only [Bool.not_eq_true', Bool.not_eq_false', reduceCtorEq] at h)) | fail)
      all_goals (try clear E0 E1)
      all_goals ((simp only [go_sem, *]); first | done | (simp [h6]; done))
    · skip
      have k0 : decide (s.got < 0) = false := by simp only [decide_eq_true_eq, decide_eq_false_iff_not]; omega
      have k1 : decide (s.lost < 0) = false := by simp only [decide_eq_true_eq, decide_eq_false_iff_not]; omega
      have k2 : decide (s.passed < 0) = false := by simp only [decide_eq_true_eq, decide_eq_false_iff_not]; omega
      have k3 : decide (s.got ≤ s.cursor - s.start) = false := by simp only [decide_eq_true_eq, decide_eq_false_iff_not]; omega
      have h6 : subB r s = false := by rw [subB, decide_eq_false (p := 0 ≤ s.got ∧ s.got ≤ s.cursor - s.start ∧ 0 ≤ s.lost ∧ s.lost ≤ s.cursor - s.start ∧ 0 ≤ s.passed ∧ s.passed ≤ s.cursor - s.start ∧ s.got + s.lost + s.passed = s.cursor - s.start) (by omega), Bool.and_false]
      refine snd_b hT Tryz.func43 Tryz.results43 Tryz.ntmps43 ?_
      (all_goals (have E0 := @encRing.eq_1))
      (all_goals (have E1 := @encSub.eq_1))
      repeat' (first | refine one ?_ | (refine two ?_ ?_; all_goals (intro h; try simp only [Bool.not_eq_true', Bool.not_eq_false', reduceCtorEq] at h)) | fail)
      all_goals (try clear E0 E1)
      all_goals ((simp only [go_sem, *]); first | done | (simp [h6]; done))
    · skip
      have k0 : decide (s.got < 0) = false := by simp only [decide_eq_true_eq, decide_eq_false_iff_not]; omega
      have k1 : decide (s.lost < 0) = false := by simp only [decide_eq_true_eq, decide_eq_false_iff_not]; omega
      have k2 : decide (s.passed < 0) = false := by simp only [decide_eq_true_eq, decide_eq_false_iff_not]; omega
      have k3 : decide (s.got ≤ s.cursor - s.start) = true := by simp only [decide_eq_true_eq, decide_eq_false_iff_not]; omega
      have k4 : decide (s.lost ≤ s.cursor - s.start) = false := by simp only [decide_eq_true_eq, decide_eq_false_iff_not]; omega
      have h6 : subB r s = false := by rw [subB, decide_eq_false (p := 0 ≤ s.got ∧ s.got ≤ s.cursor - s.start ∧ 0 ≤ s.lost ∧ s.lost ≤ s.cursor - s.start ∧ 0 ≤ s.passed ∧ s.passed ≤ s.cursor - s.start ∧ s.got + s.lost + s.passed = s.cursor - s.start) (by omega), Bool.and_false]
      refine snd_b hT Tryz.func43 Tryz.results43 Tryz.ntmps43 ?_
      (all_goals (have E0 := @encRing.eq_1))
      (all_goals (have E1 := @encSub.eq_1))
      repeat' (first | refine one ?_ | (refine two ?_ ?_; all_goals (intro h; try simp only [Bool.not_eq_true', Bool.not_eq_false', reduceCtorEq] at h)) | fail)
      all_goals (try clear E0 E1)
      all_goals ((simp only [go_sem, *]); first | done | (simp [h6]; done))
    · skip
      have k0 : decide (s.got < 0) = false := by simp only [decide_eq_true_eq, decide_eq_false_iff_not]; omega
      have k1 : decide (s.lost < 0) = false := by simp only [decide_eq_true_eq, decide_eq_false_iff_not]; omega
      have k2 : decide (s.passed < 0) = false := by simp only [decide_eq_true_eq, decide_eq_false_iff_not]; omega
      have k3 : decide (s.got ≤ s.cursor - s.start) = true := by simp only [decide_eq_true_eq, decide_eq_false_iff_not]; omega
      have k4 : decide (s.lost ≤ s.cursor - s.start) = true := by simp only [decide_eq_true_eq, decide_eq_false_iff_not]; omega
      have k5 : decide (s.passed ≤ s.cursor - s.start) = false := by simp only [decide_eq_true_eq, decide_eq_false_iff_not]; omega
      have h6 : subB r s = false := by rw [subB, decide_eq_false (p := 0 ≤ s.got ∧ s.got ≤ s.cursor - s.start ∧ 0 ≤ s.lost ∧ s.lost ≤ s.cursor - s.start ∧ 0 ≤ s.passed ∧ s.passed ≤ s.cursor - s.start ∧ s.got + s.lost + s.passed = s.cursor - s.start) (by omega), Bool.and_false]
      refine snd_b hT Tryz.func43 Tryz.results43 Tryz.ntmps43 ?_
      (all_goals (have E0 := @encRing.eq_1))
      (all_goals (have E1 := @encSub.eq_1))
      repeat' (first | refine one ?_ | (refine two ?_ ?_; all_goals (intro h; try simp only [Bool.not_eq_true', Bool.not_eq_false', reduceCtorEq] at h)) | fail)
      all_goals (try clear E0 E1)
      all_goals ((simp only [go_sem, *]); first | done | (simp [h6]; done))
    · have hw2 : IntKind.i64.wrap (s.got + s.lost) = s.got + s.lost := by rw [wrap_small] <;> omega
      have hw3 : IntKind.i64.wrap (s.got + s.lost + s.passed) = s.got + s.lost + s.passed := by rw [wrap_small] <;> omega
      have k0 : decide (s.got < 0) = false := by simp only [decide_eq_true_eq, decide_eq_false_iff_not]; omega
      have k1 : decide (s.lost < 0) = false := by simp only [decide_eq_true_eq, decide_eq_false_iff_not]; omega
      have k2 : decide (s.passed < 0) = false := by simp only [decide_eq_true_eq, decide_eq_false_iff_not]; omega
      have k3 : decide (s.got ≤ s.cursor - s.start) = true := by simp only [decide_eq_true_eq, decide_eq_false_iff_not]; omega
      have k4 : decide (s.lost ≤ s.cursor - s.start) = true := by simp only [decide_eq_true_eq, decide_eq_false_iff_not]; omega
      have k5 : decide (s.passed ≤ s.cursor - s.start) = true := by simp only [decide_eq_true_eq, decide_eq_false_iff_not]; omega
      have h6 : subB r s = (F && decide (s.got + s.lost + s.passed = s.cursor - s.start)) := by
        rw [subB, hF, decide_eq_true (p := 0 ≤ s.start ∧ s.start ≤ s.cursor ∧ s.cursor ≤ r.sent) hc]
        by_cases e : s.got + s.lost + s.passed = s.cursor - s.start
        · rw [decide_eq_true e, decide_eq_true (by omega)]; cases F <;> rfl
        · rw [decide_eq_false e, decide_eq_false (by omega)]; cases F <;> rfl
      have h7 : (s.got + s.lost + s.passed == s.cursor - s.start) = decide (s.got + s.lost + s.passed = s.cursor - s.start) := by
        by_cases e : s.got + s.lost + s.passed = s.cursor - s.start <;> simp [e]
      refine snd_b hT Tryz.func43 Tryz.results43 Tryz.ntmps43 ?_
      (all_goals (have E0 := @encRing.eq_1))
      (all_goals (have E1 := @encSub.eq_1))
      repeat' (first | refine one ?_ | (refine two ?_ ?_; all_goals (intro h; try simp only [Bool.not_eq_true', Bool.not_eq_false', reduceCtorEq] at h)) | fail)
      all_goals (try clear E0 E1)
      all_goals ((simp only [go_sem, *]); first | done | (cases F <;> simp_all; done))
noncomputable abbrev ic_spec_l9SubOk := Con.mk (P := P) (f := 43) Tryz.call43 @c_spec_l9SubOk
attribute [instance] ic_spec_l9SubOk
end Go.Proofs.YtlgdijjkegeccaaGreat
