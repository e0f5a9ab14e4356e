/- Contracts: a filter that is right. -/
import Derived.Test.YtlgdijjkegeccaaFnC
import Derived.Test.YtlgdijjkegeccaaGlTerm
namespace Go.Proofs.Ytlgdijjkegeccaa
open Go Go.RowKit Go.Bv
set_option linter.unusedSimpArgs false
set_option linter.unusedVariables false
set_option maxRecDepth 4000

/-- What stands on the stack behind a term. -/
def step1 (n : Int) (t : TermV) : Option Int := if termB t.op t.num t.text = true ∧ ¬ n < takesI t.op then some (n + (1 - takesI t.op)) else none
def run1 : List TermV → Int → Option Int
  | [], n => some n
  | t :: ts, n => match step1 n t with | some m => run1 ts m | none => none
def filterB (f : List TermV) : Bool := match run1 f 0 with
  | some n => decide ((f.length : Int) ≤ 12) && (n == 1 || (f.length : Int) == 0)
  | none => false

theorem run1_app (f : List TermV) : ∀ (g : List TermV) (n : Int), run1 (f ++ g) n = match run1 f n with | some m => run1 g m | none => none := by
  induction f with
  | nil => intro g n; rfl
  | cons t f ih =>
    intro g n
    simp only [List.cons_append, run1]
    cases step1 n t with
    | none => rfl
    | some m => exact ih g m
/-- The stack behind the first i. -/
theorem run1_take {f : List TermV} {i : Nat} {t : TermV} (h : f[i]? = some t) (n : Int) : run1 (f.take (i + 1)) n = match run1 (f.take i) n with | some m => step1 m t | none => none := by
  have hi := (List.getElem?_eq_some_iff.1 h).1
  rw [← List.take_append_getElem hi, run1_app]
  have : f[i] = t := (List.getElem?_eq_some_iff.1 h).2
  rw [this]
  cases run1 (f.take i) n with
  | none => rfl
  | some m => simp only [run1]; cases step1 m t <;> rfl
theorem run1_none {f : List TermV} {i : Nat} (h : run1 (f.take i) 0 = none) : filterB f = false := by
  unfold filterB
  rw [← List.take_append_drop i f, run1_app, h]

theorem takesI_le (o : Int) : 0 ≤ takesI o ∧ takesI o ≤ 2 := by unfold takesI; split <;> (try split) <;> omega
theorem c_impl_FilterOk {s : Nat} (f : List TermV) (hf : f.length < 4611686018427387904) (ht : ∀ t ∈ f, t.fits) : Sound P 111 [.lst false s (f.map encT)] (.bool (filterB f)) := by
  refine snd_b hT Try.func111 Try.results111 Try.ntmps111 ?_
  repeat' (first | refine one ?_ | (refine two ?_ ?_; all_goals (intro h; try simp only [Bool.not_eq_true', Bool.not_eq_false', reduceCtorEq] at h)) | fail)
  · refine aw_loop [1, 4, 5, 9, 10, 11, 12, 13, 14, 15, 16, 17, 18, 19, 20, 21, 22, 23, 24, 25, 26, 27, 28, 29, 30, 31, 32, 33, 34, 35, 36, 37, 38] (fun n S => ∃ (i : Nat) (m : Int), n = f.length - i ∧ i ≤ f.length ∧ 0 ≤ m ∧ m ≤ i ∧ run1 (f.take i) 0 = some m ∧ S = [.lst false s (f.map encT), .undef, .bool false, .int .i64 m, .undef, .undef, .lst false s (f.map encT), .int .i64 f.length, .int .i64 i, .undef, .undef, .undef, .undef, .undef, .undef, .undef, .undef, .undef, .undef, .undef, .undef, .undef, .undef, .undef, .undef, .undef, .undef, .undef, .undef, .undef, .undef, .undef, .undef, .undef, .undef, .undef, .undef, .undef, .undef]) f.length ?_ ?_
    · refine ⟨0, 0, by simp, by omega, by omega, by omega, by simp [run1], ?_⟩
      simp only [clr, go_sem]
      first | done | rfl
    · rintro n S ⟨i, m, hn, hi, hm0, hmi, hr, rfl⟩
      have hw : IntKind.i64.wrap ((i : Int) + 1) = ((i + 1 : Nat) : Int) := by rw [wrap_small] <;> omega
      by_cases hlt : i < f.length
      · have hd : decide ((i : Int) < (f.length : Int)) = true := by simp [hlt]
        obtain ⟨t, hti⟩ : ∃ t, f[i]? = some t := ⟨f[i], by simp [hlt]⟩
        have hfit : t.text.size < 4611686018427387904 := ht t (List.mem_of_getElem? hti)
        have htk := run1_take hti 0
        rw [hr] at htk
        simp only [step1] at htk
        clear ht
        obtain ⟨hk0, hk2⟩ := takesI_le t.op
        have hw1 : IntKind.i64.wrap (1 - takesI t.op) = 1 - takesI t.op := by rw [wrap_small] <;> omega
        have hw2 : IntKind.i64.wrap (m + (1 - takesI t.op)) = m + (1 - takesI t.op) := by rw [wrap_small] <;> omega
        (all_goals (have E0 := @encT.eq_1))
        repeat' (first | refine one ?_ | (refine two ?_ ?_; all_goals (intro h; try simp only [Bool.not_eq_true', Bool.not_eq_false', reduceCtorEq] at h)) | fail)
        all_goals (try clear E0)
        · (simp only [go_sem, *])
          have hb : filterB f = false := run1_none (i := i + 1) (by rw [htk]; simp_all)
          rw [hb]
        · have h' := of_decide_eq_false h
          refine ⟨f.length - (i + 1), by omega, i + 1, m + (1 - takesI t.op), rfl, by omega, by omega, by omega, by rw [htk]; simp_all, ?_⟩
          simp only [clr, go_sem, hw]
        · (simp only [go_sem, *])
          have hb : filterB f = false := run1_none (i := i + 1) (by rw [htk]; simp_all)
          rw [hb]
      · have hd : decide ((i : Int) < (f.length : Int)) = false := by simp; omega
        clear ht
        (all_goals (have E0 := @encT.eq_1))
        repeat' (first | refine one ?_ | (refine two ?_ ?_; all_goals (intro h; try simp only [Bool.not_eq_true', Bool.not_eq_false', reduceCtorEq] at h)) | fail)
        all_goals (try clear E0)
        all_goals (
          (simp only [go_sem, *])
          have hall : run1 f 0 = some m := by rw [← hr, List.take_of_length_le (by omega)]
          simp_all [filterB]
          try (intro hx; omega))

noncomputable abbrev ic_impl_FilterOk := Con.mk (P := P) (f := 111) Try.call111 @c_impl_FilterOk
attribute [instance] ic_impl_FilterOk
theorem takesS_eq (o n : Int) (s : ByteArray) : takesS o n s = if termB o n s = true then takesI o else -1 := by
  unfold takesS termB takesI
  rcases opCases o with rfl | rfl | rfl | rfl | rfl | rfl | rfl | rfl | rfl | rfl | ⟨h1, h2, h3, h4, h5, h6, h7, h8, h9, h10⟩
  all_goals simp_all [Bool.and_comm]
theorem c_spec_FilterOk {s : Nat} (f : List TermV) (hf : f.length < 4611686018427387904) (ht : ∀ t ∈ f, t.fits) : Sound P 108 [.lst false s (f.map encT)] (.bool (filterB f)) := by
  refine snd_b hT Try.func108 Try.results108 Try.ntmps108 ?_
  repeat' (first | refine one ?_ | (refine two ?_ ?_; all_goals (intro h; try simp only [Bool.not_eq_true', Bool.not_eq_false', reduceCtorEq] at h)) | fail)
  · (simp only [go_sem, *])
    have h' := of_decide_eq_true h
    have hb : filterB f = false := by
      unfold filterB
      split
      · have hd : decide ((f.length : Int) ≤ 12) = false := by simp; omega
        rw [hd]; rfl
      · rfl
    rw [hb]
  · have h0 := of_decide_eq_false h
    clear h
    refine aw_loop [1, 5, 6, 7, 8, 9, 10, 11, 12, 13, 14, 15, 16, 17, 18, 19, 20, 21, 22, 23, 24, 25, 26, 27, 28, 29, 30, 31, 32, 33, 34, 35, 36, 37] (fun n S => ∃ (i : Nat) (m : Int), n = f.length - i ∧ i ≤ f.length ∧ 0 ≤ m ∧ m ≤ i ∧ run1 (f.take i) 0 = some m ∧ S = [.lst false s (f.map encT), .undef, .bool false, .int .i64 m, .int .i64 i, .undef, .undef, .undef, .undef, .undef, .undef, .undef, .undef, .undef, .undef, .undef, .undef, .undef, .undef, .undef, .undef, .undef, .undef, .undef, .undef, .undef, .undef, .undef, .undef, .undef, .undef, .undef, .undef, .undef, .undef, .undef, .undef, .undef]) f.length ?_ ?_
    · refine ⟨0, 0, by simp, by omega, by omega, by omega, by simp [run1], ?_⟩
      simp only [clr, go_sem]
      first | done | rfl
    · rintro n S ⟨i, m, hn, hi, hm0, hmi, hr, rfl⟩
      have hw : IntKind.i64.wrap ((i : Int) + 1) = ((i + 1 : Nat) : Int) := by rw [wrap_small] <;> omega
      by_cases hlt : i < f.length
      · have hd : decide ((i : Int) < (f.length : Int)) = true := by simp [hlt]
        obtain ⟨t, hti⟩ : ∃ t, f[i]? = some t := ⟨f[i], by simp [hlt]⟩
        have hfit : t.text.size < 4611686018427387904 := ht t (List.mem_of_getElem? hti)
        have htk := run1_take hti 0
        rw [hr] at htk
        simp only [step1] at htk
        clear ht
        obtain ⟨hk0, hk2⟩ := takesI_le t.op
        have hw1 : IntKind.i64.wrap (m - takesI t.op) = m - takesI t.op := by rw [wrap_small] <;> omega
        have hw2 : IntKind.i64.wrap (m - takesI t.op + 1) = m - takesI t.op + 1 := by rw [wrap_small] <;> omega
        have hk3 : decide (takesI t.op < 0) = false := by simp; omega
        have hs := takesS_eq t.op t.num t.text
        cases hb : termB t.op t.num t.text with
        | false =>
          rw [hb] at hs htk
          simp only [Bool.false_eq_true, if_false, false_and] at hs htk
          (all_goals (have E0 := @encT.eq_1))
          repeat' (first | refine one ?_ | (refine two ?_ ?_; all_goals (intro h; try simp only [Bool.not_eq_true', Bool.not_eq_false', reduceCtorEq] at h)) | fail)
          all_goals (try clear E0)
          (simp only [go_sem, *])
          rw [run1_none htk]
        | true =>
          rw [hb] at hs htk
          simp only [if_true, true_and] at hs htk
          by_cases hgt : m < takesI t.op
          · rw [if_neg (by simpa using hgt)] at htk
            have hg : decide (takesI t.op > m) = true := by simpa using hgt
            (all_goals (have E0 := @encT.eq_1))
            repeat' (first | refine one ?_ | (refine two ?_ ?_; all_goals (intro h; try simp only [Bool.not_eq_true', Bool.not_eq_false', reduceCtorEq] at h)) | fail)
            all_goals (try clear E0)
            (simp only [go_sem, *])
            rw [run1_none htk]
          · rw [if_pos hgt] at htk
            have hg : decide (takesI t.op > m) = false := by simpa using hgt
            (all_goals (have E0 := @encT.eq_1))
            repeat' (first | refine one ?_ | (refine two ?_ ?_; all_goals (intro h; try simp only [Bool.not_eq_true', Bool.not_eq_false', reduceCtorEq] at h)) | fail)
            all_goals (try clear E0)
            refine ⟨f.length - (i + 1), by omega, i + 1, m + (1 - takesI t.op), rfl, by omega, by omega, by omega, htk, ?_⟩
            simp only [clr, go_sem, hw]
            have e : m - takesI t.op + 1 = m + (1 - takesI t.op) := by omega
            rw [e]
      · have hd : decide ((i : Int) < (f.length : Int)) = false := by simp; omega
        clear ht
        (all_goals (have E0 := @encT.eq_1))
        repeat' (first | refine one ?_ | (refine two ?_ ?_; all_goals (intro h; try simp only [Bool.not_eq_true', Bool.not_eq_false', reduceCtorEq] at h)) | fail)
        all_goals (try clear E0)
        all_goals (
          (simp only [go_sem, *])
          have hall : run1 f 0 = some m := by rw [← hr, List.take_of_length_le (by omega)]
          simp_all [filterB]
          try (intro hx; omega))
noncomputable abbrev ic_spec_FilterOk := Con.mk (P := P) (f := 108) Try.call108 @c_spec_FilterOk
attribute [instance] ic_spec_FilterOk
end Go.Proofs.Ytlgdijjkegeccaa
