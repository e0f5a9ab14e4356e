/- Contracts: a copy of a ring. -/
import Derived.Test.YtlgdijjkegeccaaGreatKR
import Derived.Test.YtlgdijjkegeccaaGreatBvM5
import Derived.Test.YtlgdijjkegeccaaGreatKM
import Derived.Test.YtlgdijjkegeccaaGreatKS
import Derived.Test.YtlgdijjkegeccaaGreatKX
import Derived.Test.YtlgdijjkegeccaaGreatKT
namespace Go.Proofs.YtlgdijjkegeccaaGreat
open Go Go.RowKit Go.Bv
set_option linter.unusedSimpArgs false
set_option linter.unusedVariables false
set_option maxRecDepth 4000
set_option maxHeartbeats 1000000
/-! The walks that end. -/
theorem sFnCp24 {p q : Prop} (k : q) (h : q → p := by
  first
  | exact shAR 8 (by exact i_T hT [[], [0], [], [], [3], [], [3, 4, 5], [3, 4, 5, 6], [3, 4, 5, 6, 7], [3, 4, 5, 6, 7, 8], [0, 1, 2, 3, 4, 5, 6, 7, 8, 9], [0, 1, 2, 3, 4, 5, 6, 7, 8, 9, 10], [0, 1, 2, 3, 4, 5, 6, 7, 8, 9, 10, 11]] 10 [26, 27, 28, 29, 30, 31, 32, 33, 34, 35])
  | exact i1
  | fail) : p := h k
theorem wFnCp24_0 {p : Prop} (h : p := by
  have E0 := @encRing.eq_1
  have E1 := @zeroRing.eq_1
  repeat' (first | refine sFnCp24 ?_ | (refine two ?_ ?_; all_goals (intro h; try simp only [Bool.not_eq_true', Bool.not_eq_false', reduceCtorEq] at h)) | fail)
  all_goals (simp only [go_sem, *]; first | done | rfl)) : p := h
theorem wFnCp15_0 {p : Prop} (h : p := by
  have E0 := @encRing.eq_1
  have E1 := @zeroRing.eq_1
  exact wk) : p := h

/-- The first i own their filters. -/
def mixS (f : List SubV) (i : Nat) : List AV := (f.take i).map (encSub true) ++ (f.drop i).map (encSub false)
theorem mixS_zero (f : List SubV) : mixS f 0 = f.map (encSub false) := by simp [mixS]
theorem mixS_all {f : List SubV} {i : Nat} (h : f.length ≤ i) : mixS f i = f.map (encSub true) := by simp [mixS, List.take_of_length_le h, List.drop_of_length_le h]
theorem mixS_len (f : List SubV) (i : Nat) : (mixS f i).length = f.length := by simp [mixS]; omega
theorem mixS_at {f : List SubV} {i : Nat} {s : SubV} (h : f[i]? = some s) : (mixS f i)[i]? = some (encSub false s) := by
  have hlt := (List.getElem?_eq_some_iff.1 h).1
  have hl : ((f.take i).map (encSub true)).length = i := by simp; omega
  unfold mixS
  rw [List.getElem?_append_right (by omega), hl, Nat.sub_self, List.getElem?_map, List.getElem?_drop, Nat.add_zero, h]; rfl
theorem mixS_set {f : List SubV} {i : Nat} {s : SubV} (h : f[i]? = some s) : (mixS f i).set i (encSub true s) = mixS f (i + 1) := by
  have hlt := (List.getElem?_eq_some_iff.1 h).1
  have hl : ((f.take i).map (encSub true)).length = i := by simp; omega
  unfold mixS
  rw [List.set_append_right _ _ (by omega), hl, Nat.sub_self, List.drop_eq_getElem_cons hlt, List.map_cons, List.set_cons_zero, List.take_add_one, h]
  simp
/-- The first i. -/
def outS (f : List SubV) (i : Nat) : List AV := (f.take i).map (encSub true)
theorem outS_len {f : List SubV} {i : Nat} (h : i ≤ f.length) : (outS f i).length = i := by simp [outS]; omega
theorem outS_succ {f : List SubV} {i : Nat} {s : SubV} (h : f[i]? = some s) : outS f i ++ [encSub true s] = outS f (i + 1) := by
  unfold outS
  rw [List.take_add_one, h]; simp
theorem outS_all {f : List SubV} {i : Nat} (h : f.length ≤ i) : outS f i = f.map (encSub true) := by simp [outS, List.take_of_length_le h]
theorem sumL_at {α : Type} (g : α → Nat) {f : List α} {i : Nat} {x : α} (h : f[i]? = some x) : g x ≤ sumL g f := by
  induction f generalizing i with
  | nil => simp at h
  | cons y f ih =>
    cases i with
    | zero => simp only [List.getElem?_cons_zero, Option.some.injEq] at h; subst h; simp [sumL]
    | succ i => have := ih (i := i) (by simpa using h); simp only [sumL, List.map_cons, List.sum_cons] at this ⊢; omega
theorem ring_sizes {r : RingV} (h : wRing r ≤ 4194304) : r.items.length ≤ 4194304 ∧ r.line.length ≤ 4194304 ∧ r.grants.length ≤ 4194304 ∧ r.subs.length ≤ 4194304 ∧ ∀ (i : Nat) (s : SubV), r.subs[i]? = some s → s.filter.length ≤ 4194304 := by
  simp only [wRing, wMsgS, wSubS, wIntS] at h
  refine ⟨by omega, by omega, by omega, by omega, fun i s hs => ?_⟩
  have h1 := sumL_at wSub hs
  have h2 : wSub s = s.filter.length + sumL wTerm s.filter := rfl
  omega
theorem c_impl_copyRing (r : RingV) {u : AV} (hu : u = encRing false r) (hw : wRing r ≤ 4194304) : Sound P 24 [u] (encRing true r) := by
  subst hu
  obtain ⟨z1, z2, z3, z4, z5⟩ := ring_sizes hw
  clear hw
  refine snd_b hT Tryz.func24 Tryz.results24 Tryz.ntmps24 ?_
  (all_goals (have E0 := @encRing.eq_1))
  repeat' (first | refine sFnCp24 ?_ | (refine two ?_ ?_; all_goals (intro h; try simp only [Bool.not_eq_true', Bool.not_eq_false', reduceCtorEq] at h)) | fail)
  all_goals (try clear E0)
  refine aw_loop [3, 4, 5, 6, 7, 8, 9, 10, 11, 12, 13, 14, 15, 16, 17, 18, 19, 20, 21, 24, 25, 26, 27, 28, 29, 30, 31, 32, 33, 34, 35, 36, 37, 38, 39] (fun n S => ∃ i : Nat, n = r.subs.length - i ∧ i ≤ r.subs.length ∧ S = [encRing false r, .box (.agg [.int .i64 r.cap, .int .i64 r.sent, .lst true 3 (r.items.map (encMsg false)), .int .i64 r.next, .lst true 7 (mixS r.subs i), .lst true 1 (r.line.map encInt), .lst true 1 (r.grants.map encInt), .bool r.closed]), .box zeroRing, .undef, .undef, .undef, .undef, .undef, .undef, .undef, .undef, .undef, .undef, .undef, .undef, .undef, .undef, .undef, .undef, .undef, .undef, .undef, .int .i64 r.subs.length, .int .i64 i, .undef, .undef, .undef, .undef, .undef, .undef, .undef, .undef, .undef, .undef, .undef, .undef, .undef, .undef, .undef, .undef]) r.subs.length ?_ ?_
  · refine ⟨0, by simp, by omega, ?_⟩
    rw [mixS_zero]
    (rw [clr_eq]; rotate_left; rfl; simp only [keepB, go_sem, Nat.reduceBEq, Nat.reduceAdd, cond_true, cond_false, *]; simp only [clrG, Nat.reduceBEq, Nat.reduceAdd, cond_true, cond_false])
    first | done | rfl
  rintro n S ⟨i, hn, hi, rfl⟩
  have hwi : IntKind.i64.wrap ((i : Int) + 1) = ((i + 1 : Nat) : Int) := by rw [wrap_small] <;> omega
  have hml := mixS_len r.subs i
  by_cases hlt : i < r.subs.length
  · have hd : decide ((i : Int) < (r.subs.length : Int)) = true := by simp [hlt]
    obtain ⟨s, hsi⟩ : ∃ s, r.subs[i]? = some s := ⟨r.subs[i], by simp [hlt]⟩
    have hsz := z5 i s hsi
    have hget := mixS_at hsi
    have hset : (mixS r.subs i).set i (.agg [.int .i64 s.id, .int .i64 s.start, .int .i64 s.cursor, .int .i64 s.got, .int .i64 s.lost, .int .i64 s.passed, .lst true 3 (s.filter.map encT)]) = mixS r.subs (i + 1) := mixS_set hsi
    have hi0 : (0 : Int) ≤ (i : Int) := by omega
    have hi1 : (i : Int) < (r.subs.length : Int) := by omega
    clear z5 hsi
    (all_goals (have E0 := @encRing.eq_1))
    (all_goals (have E1 := @encSub.eq_1))
    (all_goals (have E2 := @zeroRing.eq_1))
    repeat' (first | refine sFnCp24 ?_ | (refine two ?_ ?_; all_goals (intro h; try simp only [Bool.not_eq_true', Bool.not_eq_false', reduceCtorEq] at h)) | fail)
    all_goals (try clear E0 E1 E2)
    all_goals (
      refine ⟨r.subs.length - (i + 1), by omega, i + 1, rfl, by omega, ?_⟩
      (rw [clr_eq]; rotate_left; rfl; simp only [keepB, go_sem, Nat.reduceBEq, Nat.reduceAdd, cond_true, cond_false, *]; simp only [clrG, Nat.reduceBEq, Nat.reduceAdd, cond_true, cond_false])
      first | done | rfl)
  · have hd : decide ((i : Int) < (r.subs.length : Int)) = false := by simp; omega
    have hm := mixS_all (f := r.subs) (i := i) (by omega)
    rw [hm]
    clear hm hml
    exact wFnCp24_0
noncomputable abbrev ic_impl_copyRing := Con.mk (P := P) (f := 24) Tryz.call24 @c_impl_copyRing
attribute [instance] ic_impl_copyRing
theorem c_spec_l9Copy (r : RingV) {u : AV} (hu : u = encRing false r) (hw : wRing r ≤ 4194304) : Sound P 15 [u] (encRing true r) := by
  subst hu
  obtain ⟨z1, z2, z3, z4, z5⟩ := ring_sizes hw
  clear hw
  refine snd_b hT Tryz.func15 Tryz.results15 Tryz.ntmps15 ?_
  (all_goals (have E0 := @encRing.eq_1))
  repeat' (first | refine one ?_ | (refine two ?_ ?_; all_goals (intro h; try simp only [Bool.not_eq_true', Bool.not_eq_false', reduceCtorEq] at h)) | fail)
  all_goals (try clear E0)
  refine aw_loop [5, 6, 7, 8, 9, 10, 11, 12, 13, 14, 15, 16, 17, 18, 19, 20, 21, 22, 23, 24, 25, 26, 27, 28, 29, 30, 31, 32, 33, 34, 35, 36, 37, 38, 39, 40, 41, 42, 43, 44, 45] (fun n S => ∃ i : Nat, n = r.subs.length - i ∧ i ≤ r.subs.length ∧ S = [encRing false r, .box (encRing false r), .box zeroRing, .box (.agg [.int .i64 r.cap, .int .i64 r.sent, .lst true 3 (r.items.map (encMsg false)), .int .i64 r.next, .lst true 7 (outS r.subs i), .lst true 1 (r.line.map encInt), .lst true 1 (r.grants.map encInt), .bool r.closed]), .int .i64 i, .undef, .undef, .undef, .undef, .undef, .undef, .undef, .undef, .undef, .undef, .undef, .undef, .undef, .undef, .undef, .undef, .undef, .undef, .undef, .undef, .undef, .undef, .undef, .undef, .undef, .undef, .undef, .undef, .undef, .undef, .undef, .undef, .undef, .undef, .undef, .undef, .undef, .undef, .undef, .undef, .undef]) r.subs.length ?_ ?_
  · refine ⟨0, by simp, by omega, ?_⟩
    (rw [clr_eq]; rotate_left; rfl; simp only [keepB, go_sem, Nat.reduceBEq, Nat.reduceAdd, cond_true, cond_false, *]; simp only [clrG, Nat.reduceBEq, Nat.reduceAdd, cond_true, cond_false])
    first | done | rfl
  rintro n S ⟨i, hn, hi, rfl⟩
  have hwi : IntKind.i64.wrap ((i : Int) + 1) = ((i + 1 : Nat) : Int) := by rw [wrap_small] <;> omega
  have hol := outS_len hi
  by_cases hlt : i < r.subs.length
  · have hd : decide ((i : Int) < (r.subs.length : Int)) = true := by simp [hlt]
    obtain ⟨s, hsi⟩ : ∃ s, r.subs[i]? = some s := ⟨r.subs[i], by simp [hlt]⟩
    have hsz := z5 i s hsi
    have hout : outS r.subs i ++ [.agg [.int .i64 s.id, .int .i64 s.start, .int .i64 s.cursor, .int .i64 s.got, .int .i64 s.lost, .int .i64 s.passed, .lst true 3 (s.filter.map encT)]] = outS r.subs (i + 1) := outS_succ hsi
    have hi0 : (0 : Int) ≤ (i : Int) := by omega
    have hi1 : (i : Int) < (r.subs.length : Int) := by omega
    clear z5
    (all_goals (have E0 := @encRing.eq_1))
    (all_goals (have E1 := @encSub.eq_1))
    (all_goals (have E2 := @zeroRing.eq_1))
    repeat' (first | refine one ?_ | (refine two ?_ ?_; all_goals (intro h; try simp only [Bool.not_eq_true', Bool.not_eq_false', reduceCtorEq] at h)) | fail)
    all_goals (try clear E0 E1 E2)
    all_goals (
      refine ⟨r.subs.length - (i + 1), by omega, i + 1, rfl, by omega, ?_⟩
      (rw [clr_eq]; rotate_left; rfl; simp only [keepB, go_sem, Nat.reduceBEq, Nat.reduceAdd, cond_true, cond_false, *]; simp only [clrG, Nat.reduceBEq, Nat.reduceAdd, cond_true, cond_false])
      first | done | rfl)
  · have hd : decide ((i : Int) < (r.subs.length : Int)) = false := by simp; omega
    have hm := outS_all (f := r.subs) (i := i) (by omega)
    rw [hm]
    clear hm hol
    exact wFnCp15_0
noncomputable abbrev ic_spec_l9Copy := Con.mk (P := P) (f := 15) Tryz.call15 @c_spec_l9Copy
attribute [instance] ic_spec_l9Copy
end Go.Proofs.YtlgdijjkegeccaaGreat
