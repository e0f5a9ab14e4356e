/- The law FnExactPatternOk returns true of every text. -/
import Derived.Test.YtffpfjnakhpheaaDoorFnNc
import Derived.Test.YtffpfjnakhpheaaDoorBvM5
namespace Go.Proofs.YtffpfjnakhpheaaDoor
open Go Go.RowKit Go.Bv
set_option linter.unusedSimpArgs false
set_option linter.unusedVariables false
set_option maxRecDepth 4000
set_option maxHeartbeats 4000000
/-! The walks that end. -/
theorem wFnNe10_0 {p : Prop} (h : p := by
  repeat' (first | refine oneF ?_ | (refine two ?_ ?_; all_goals (intro h; try simp only [Bool.not_eq_true', Bool.not_eq_false', reduceCtorEq] at h)) | fail)
  all_goals (simp only [go_sem, *]; first | done | rfl)) : p := h
theorem wFnNe10_1 {p : Prop} (h : p := by
  have E0 := @encString.eq_1
  repeat' (first | refine oneF ?_ | (refine two ?_ ?_; all_goals (intro h; try simp only [Bool.not_eq_true', Bool.not_eq_false', reduceCtorEq] at h)) | fail)
  all_goals (simp only [go_sem, *]; first | done | rfl)) : p := h
theorem c_impl_PatternOk (s : ByteArray) (hs : s.size ≤ 1048576) : Sound P 10 [.str s] (.bool (rightB true s)) := by
  have hr : rightB true s = (rightL true (partsS s) && (decide ((s.size : Int) ≥ 1) && decide ((s.size : Int) ≤ 24))) := by rw [rightB, Bool.and_comm]
  rw [hr]
  clear hr
  have hlen := partsS_le s
  have hsplit := c_strings_Split s (by omega)
  have hpb : ∀ p ∈ partsS s, p.size < 4611686018427387904 := fun p hp => parts_size hp (by omega)
  obtain ⟨ps, hps⟩ : ∃ ps, partsS s = ps := ⟨_, rfl⟩
  rw [hps] at hlen hsplit hpb
  rw [hps]
  have hps4 : ps.length ≤ 4194304 := by omega
  have hwl : IntKind.i64.wrap ((ps.length : Int) - 1) = (ps.length : Int) - 1 := by rw [wrap_small] <;> omega
  have hpb := Kept.mk hpb
  clear hps
  refine snd_b hT Tryd.func10 Tryd.results10 Tryd.ntmps10 ?_
  repeat' (first | refine oneF ?_ | (refine two ?_ ?_; all_goals (intro h; try simp only [Bool.not_eq_true', Bool.not_eq_false', reduceCtorEq] at h)) | fail)
  refine aw_loop [1, 4, 5, 6, 7, 11, 12, 13, 14, 15, 16, 17, 18, 19, 20, 21, 22, 23, 24, 25, 26, 27, 28, 29, 30, 31, 32, 33, 34, 35, 36, 37] (fun n S => ∃ i : Nat, n = ps.length - i ∧ i ≤ ps.length ∧ (∀ j, j < i → okP true ps j = true) ∧ S = [.str s, .undef, .bool false, .lst true 1 (ps.map encString), .undef, .undef, .undef, .undef, .ref 3 [] 0 ps.length, .int .i64 ps.length, .int .i64 i, .undef, .undef, .undef, .undef, .undef, .undef, .undef, .undef, .undef, .undef, .undef, .undef, .undef, .undef, .undef, .undef, .undef, .undef, .undef, .undef, .undef, .undef, .undef, .undef, .undef, .undef, .undef]) ps.length ?_ ?_
  · refine ⟨0, by simp, by omega, fun j hj => by omega, ?_⟩
    clear hpb
    first
    | ((rw [clr_eq]; rotate_left; rfl; simp only [keepB, go_sem, Nat.reduceBEq, Nat.reduceAdd, cond_true, cond_false, *]; simp only [clrG, Nat.reduceBEq, Nat.reduceAdd, cond_true, cond_false]); first | done | rfl)
    | (simp only [clr, go_sem]; first | done | rfl)
  rintro n S ⟨i, hn, hi, hl, rfl⟩
  have hw : IntKind.i64.wrap ((i : Int) + 1) = ((i + 1 : Nat) : Int) := by rw [wrap_small] <;> omega
  by_cases hlt : i < ps.length
  rotate_left
  · have hd : decide ((i : Int) < (ps.length : Int)) = false := decide_eq_false (by omega)
    rw [right_all hl (by omega), Bool.true_and]
    clear hl hpb hn
    exact wFnNe10_0
  have hd : decide ((i : Int) < (ps.length : Int)) = true := decide_eq_true (by omega)
  obtain ⟨p, hp⟩ : ∃ p, ps[i]? = some p := ⟨ps[i], List.getElem?_eq_getElem hlt⟩
  have hpz : p.size < 4611686018427387904 := hpb.out p (List.mem_of_getElem? hp)
  have hi0 : (0 : Int) ≤ (i : Int) := by omega
  have hi1 : (i : Int) < (ps.length : Int) := by omega
  have hok : okP true ps i = ((true && (isT p 42 || (isT p 62 && ((i : Int) == (ps.length : Int) - 1)))) || plainB p) := by rw [okP, hp]
  have e42 : (p.toList == ByteArray.toList { data := #[42] }) = isT p 42 := rfl
  have e62 : (p.toList == ByteArray.toList { data := #[62] }) = isT p 62 := rfl
  clear hpb
  simp only [Bool.true_and] at hok
  cases hq : isT p 42
  rotate_left
  · rw [hq] at e42 hok
    simp only [Bool.true_or, Bool.true_and] at hok
    clear hq e62
    have hl' := okP_succ hl hok
    have hl' := Kept.mk hl'
    clear hl hok 
    (all_goals (have E0 := @encString.eq_1))
    repeat' (first | refine oneF ?_ | (refine two ?_ ?_; all_goals (intro h; try simp only [Bool.not_eq_true', Bool.not_eq_false', reduceCtorEq] at h)) | fail)
    all_goals (try clear E0)
    all_goals (
      refine ⟨ps.length - (i + 1), by omega, i + 1, rfl, by omega, hl'.out, ?_⟩
      clear hl'
      (rw [clr_eq]; rotate_left; rfl; simp only [keepB, go_sem, Nat.reduceBEq, Nat.reduceAdd, cond_true, cond_false, *]; simp only [clrG, Nat.reduceBEq, Nat.reduceAdd, cond_true, cond_false])
      first | done | rfl)
  rw [hq] at e42 hok
  clear hq
  cases hq : isT p 62
  · rw [hq] at e62 hok
    simp only [Bool.true_and, Bool.false_or, Bool.false_and] at hok
    clear hq
    cases hpl : plainB p
    · rw [hpl] at hok
      rw [right_not hlt hok]
      clear hl hok hn 
      exact wFnNe10_1
    · rw [hpl] at hok
      have hl' := okP_succ hl hok
      have hl' := Kept.mk hl'
      clear hl hok 
      (all_goals (have E0 := @encString.eq_1))
      repeat' (first | refine oneF ?_ | (refine two ?_ ?_; all_goals (intro h; try simp only [Bool.not_eq_true', Bool.not_eq_false', reduceCtorEq] at h)) | fail)
      all_goals (try clear E0)
      all_goals (
        refine ⟨ps.length - (i + 1), by omega, i + 1, rfl, by omega, hl'.out, ?_⟩
        clear hl'
        (rw [clr_eq]; rotate_left; rfl; simp only [keepB, go_sem, Nat.reduceBEq, Nat.reduceAdd, cond_true, cond_false, *]; simp only [clrG, Nat.reduceBEq, Nat.reduceAdd, cond_true, cond_false])
        first | done | rfl)
  rw [hq] at e62 hok
  clear hq
  cases hlast : ((i : Int) == (ps.length : Int) - 1)
  · rw [hlast] at hok
    simp only [Bool.and_false, Bool.or_false, Bool.false_or] at hok
    cases hpl : plainB p
    · rw [hpl] at hok
      rw [right_not hlt hok]
      clear hl hok hn 
      exact wFnNe10_1
    · rw [hpl] at hok
      have hl' := okP_succ hl hok
      have hl' := Kept.mk hl'
      clear hl hok 
      (all_goals (have E0 := @encString.eq_1))
      repeat' (first | refine oneF ?_ | (refine two ?_ ?_; all_goals (intro h; try simp only [Bool.not_eq_true', Bool.not_eq_false', reduceCtorEq] at h)) | fail)
      all_goals (try clear E0)
      all_goals (
        refine ⟨ps.length - (i + 1), by omega, i + 1, rfl, by omega, hl'.out, ?_⟩
        clear hl'
        (rw [clr_eq]; rotate_left; rfl; simp only [keepB, go_sem, Nat.reduceBEq, Nat.reduceAdd, cond_true, cond_false, *]; simp only [clrG, Nat.reduceBEq, Nat.reduceAdd, cond_true, cond_false])
        first | done | rfl)
  rw [hlast] at hok
  simp only [Bool.and_self, Bool.or_true, Bool.true_or, Bool.false_or, Bool.true_and] at hok
  have hl' := okP_succ hl hok
  have hl' := Kept.mk hl'
  clear hl hok 
  (all_goals (have E0 := @encString.eq_1))
  repeat' (first | refine oneF ?_ | (refine two ?_ ?_; all_goals (intro h; try simp only [Bool.not_eq_true', Bool.not_eq_false', reduceCtorEq] at h)) | fail)
  all_goals (try clear E0)
  all_goals (
    refine ⟨ps.length - (i + 1), by omega, i + 1, rfl, by omega, hl'.out, ?_⟩
    clear hl'
    (rw [clr_eq]; rotate_left; rfl; simp only [keepB, go_sem, Nat.reduceBEq, Nat.reduceAdd, cond_true, cond_false, *]; simp only [clrG, Nat.reduceBEq, Nat.reduceAdd, cond_true, cond_false])
    first | done | rfl)
noncomputable abbrev ic_impl_PatternOk := Con.mk (P := P) (f := 10) Tryd.call10 @c_impl_PatternOk
attribute [instance] ic_impl_PatternOk
end Go.Proofs.YtffpfjnakhpheaaDoor
