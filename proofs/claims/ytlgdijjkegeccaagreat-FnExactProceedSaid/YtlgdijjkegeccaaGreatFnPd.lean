/- Contracts: what a filter leaves of a message: the program's. -/
import Derived.Test.YtlgdijjkegeccaaGreatKP
import Derived.Test.YtlgdijjkegeccaaGreatFnPb
import Derived.Test.YtlgdijjkegeccaaGreatBvM5
namespace Go.Proofs.YtlgdijjkegeccaaGreat
open Go Go.RowKit Go.Bv
set_option linter.unusedSimpArgs false
set_option linter.unusedVariables false
set_option maxRecDepth 4000
/-! The walks that end. -/
theorem sFnPd81F {p q : Prop} (k : q) (h : q → p := by
  first
  | exact shAR 11 (by exact i_W hT [[], [], [1], [0, 1, 2], [], [], [5], [4, 5, 6], [4, 5, 6, 7], [4, 5, 6, 7, 8], [4, 5, 6, 7, 8, 9], [4, 5, 6, 7, 8, 9], [4, 5, 6, 7, 8, 9, 11], [4, 5, 6, 7, 8, 9, 10, 11, 12], [4, 5, 6, 7, 8, 9, 10, 11, 12, 13], [4, 5, 6, 7, 8, 9, 10, 11, 12, 13, 14], [4, 5, 6, 7, 8, 9, 10, 11, 12, 13, 14, 15], [0, 1, 2, 3, 4, 5, 6, 7, 8, 9, 10, 11, 12, 13, 14, 15, 16], [0, 1, 2, 3, 4, 5, 6, 7, 8, 9, 10, 11, 12, 13, 14, 15, 16, 17]] [[(40, _)], [(41, _)], [(42, _)], [(43, _)], [(44, _)], [(45, _)], [(46, _)], [(47, _)], [(48, _)], [(49, _)], [(50, _)], [(51, _)], [(52, _)], [(53, _)], [(54, _)], [(55, _)], [(56, _)], [(57, _), (5, _), (16, _), (28, _), (31, _), (34, _), (37, _), (40, _), (43, _), (44, _), (47, _), (49, _), (50, _), (53, _), (60, _), (63, _), (64, _), (67, _), (69, _), (70, _), (73, _), (20, _), (79, _), (83, _), (84, _)], [(5, _), (57, _)]] (by decide +kernel) (by refine st_oF [3, 17, 18] ?_; refine st_oF [2, 3, 17, 18] ?_; refine st_oF [3, 17, 18] ?_; refine st_oF [17, 18] ?_; refine st_oF [7, 8, 9, 10, 11, 12, 13, 14, 15, 16, 17, 18] ?_; refine st_oF [6, 7, 8, 9, 10, 11, 12, 13, 14, 15, 16, 17, 18] ?_; refine st_oF [7, 8, 9, 10, 11, 12, 13, 14, 15, 16, 17, 18] ?_; refine st_oF [8, 9, 10, 11, 12, 13, 14, 15, 16, 17, 18] ?_; refine st_oF [9, 10, 11, 12, 13, 14, 15, 16, 17, 18] ?_; refine st_oF [10, 11, 12, 13, 14, 15, 16, 17, 18] ?_; refine st_oF [13, 14, 15, 16, 17, 18] ?_; refine st_oF [12, 13, 14, 15, 16, 17, 18] ?_; refine st_oF [13, 14, 15, 16, 17, 18] ?_; refine st_oF [14, 15, 16, 17, 18] ?_; refine st_oF [15, 16, 17, 18] ?_; refine st_oF [16, 17, 18] ?_; refine st_oF [17, 18] ?_; refine st_oF [18] ?_; refine st_oF [] ?_; exact steps_nil))
  | exact shAR 13 (by exact i_W hT [[], [], [1], [0, 1, 2], [], [], [5], [4, 5, 6], [4, 5, 6, 7], [4, 5, 6, 7, 8], [4, 5, 6, 7, 8, 9], [4, 5, 6, 7, 8, 9], [4, 5, 6, 7, 8, 9, 11], [4, 5, 6, 7, 8, 9, 10, 11, 12], [4, 5, 6, 7, 8, 9, 10, 11, 12, 13], [4, 5, 6, 7, 8, 9, 10, 11, 12, 13, 14], [4, 5, 6, 7, 8, 9, 10, 11, 12, 13, 14, 15], [0, 1, 2, 3, 4, 5, 6, 7, 8, 9, 10, 11, 12, 13, 14, 15, 16], [0, 1, 2, 3, 4, 5, 6, 7, 8, 9, 10, 11, 12, 13, 14, 15, 16, 17]] [[(60, _)], [(61, _)], [(62, _)], [(63, _)], [(64, _)], [(65, _)], [(66, _)], [(67, _)], [(68, _)], [(69, _)], [(70, _)], [(71, _)], [(72, _)], [(73, _)], [(74, _)], [(75, _)], [(76, _)], [(77, _), (5, _), (16, _), (28, _), (31, _), (34, _), (37, _), (40, _), (43, _), (44, _), (47, _), (49, _), (50, _), (53, _), (60, _), (63, _), (64, _), (67, _), (69, _), (70, _), (73, _), (20, _), (79, _), (83, _), (84, _)], [(5, _), (77, _)]] (by decide +kernel) (by refine st_oF [3, 17, 18] ?_; refine st_oF [2, 3, 17, 18] ?_; refine st_oF [3, 17, 18] ?_; refine st_oF [17, 18] ?_; refine st_oF [7, 8, 9, 10, 11, 12, 13, 14, 15, 16, 17, 18] ?_; refine st_oF [6, 7, 8, 9, 10, 11, 12, 13, 14, 15, 16, 17, 18] ?_; refine st_oF [7, 8, 9, 10, 11, 12, 13, 14, 15, 16, 17, 18] ?_; refine st_oF [8, 9, 10, 11, 12, 13, 14, 15, 16, 17, 18] ?_; refine st_oF [9, 10, 11, 12, 13, 14, 15, 16, 17, 18] ?_; refine st_oF [10, 11, 12, 13, 14, 15, 16, 17, 18] ?_; refine st_oF [13, 14, 15, 16, 17, 18] ?_; refine st_oF [12, 13, 14, 15, 16, 17, 18] ?_; refine st_oF [13, 14, 15, 16, 17, 18] ?_; refine st_oF [14, 15, 16, 17, 18] ?_; refine st_oF [15, 16, 17, 18] ?_; refine st_oF [16, 17, 18] ?_; refine st_oF [17, 18] ?_; refine st_oF [18] ?_; refine st_oF [] ?_; exact steps_nil))
  | exact i1F
  | fail) : p := h k
theorem wFnPd81_0 {p : Prop} (h : p := by
  have E0 := @encMsg.eq_1
  have E1 := @encT.eq_1
  have E2 := @encBool.eq_1
  repeat' (first | refine sFnPd81F ?_ | (refine two ?_ ?_; all_goals (intro h; try simp only [Bool.not_eq_true', Bool.not_eq_false', reduceCtorEq] at h)) | fail)
  all_goals (simp only [go_sem, *]; first | done | rfl)) : p := h
-- VIEWS
set_option maxHeartbeats 8000000

theorem bstep_le (m : MsgV) (st : List Bool) (t : TermV) : (bstep m st t).length ≤ st.length + 1 := by
  unfold bstep
  repeat' split
  all_goals simp
  all_goals omega
theorem bstack_le (f : List TermV) (m : MsgV) : ∀ i, i ≤ f.length → (bstack (f.take i) m).length ≤ i := by
  intro i
  induction i with
  | zero => intro _; simp [bstack]
  | succ i ih =>
    intro hi
    have hs : f[i]? = some f[i] := List.getElem?_eq_getElem _
    have := bstep_le m (bstack (f.take i) m) f[i]
    have := ih (by omega)
    rw [bstack_succ hs]
    omega
theorem leftB_nil {f : List TermV} {m : MsgV} (h : bstack f m = []) : leftB f m = true := by simp [leftB, h]
theorem leftB_one {f : List TermV} {m : MsgV} {b : Bool} (h : bstack f m = [b]) : leftB f m = b := by simp [leftB, h]
theorem c_impl_passes (f : List TermV) (m : MsgV) {u v : AV} (hu : u = .lst false 3 (f.map encT)) (hv : v = encMsg false m) (hf : filterB f = true) (hm : msgB m = true) : Sound P 81 [u, v] (.bool (leftB f m)) := by
  subst hu hv
  obtain ⟨hl12, hend⟩ := left_end m hf
  refine snd_b hT Tryz.func81 Tryz.results81 Tryz.ntmps81 ?_
  (all_goals (have E0 := @encMsg.eq_1))
  repeat' (first | refine sFnPd81F ?_ | (refine two ?_ ?_; all_goals (intro h; try simp only [Bool.not_eq_true', Bool.not_eq_false', reduceCtorEq] at h)) | fail)
  all_goals (try clear E0)
  refine aw_loop [2, 6, 7, 8, 9, 13, 14, 15, 16, 17, 18, 19, 20, 21, 22, 23, 24, 25, 26, 27, 28, 29, 30, 31, 32, 33, 34, 35, 36, 37, 38, 39, 40, 41, 42, 43, 44, 45, 46, 47, 48, 49, 50, 51, 52, 53, 54, 55, 56, 57, 58, 59, 60, 61, 62, 63, 64, 65, 66, 67, 68, 69, 70, 71, 72, 73, 74, 75, 76, 77, 78, 79, 80, 81, 82, 83, 84, 85, 86] (fun n S => ∃ i : Nat, n = f.length - i ∧ i ≤ f.length ∧ S = [.lst false 3 (f.map encT), encMsg false m, .undef, .box (encMsg false m), .bool false, .lst true 1 ((bstack (f.take i) m).map encBool), .undef, .undef, .undef, .undef, .lst false 3 (f.map encT), .int .i64 f.length, .int .i64 i, .undef, .undef, .undef, .undef, .undef, .undef, .undef, .undef, .undef, .undef, .undef, .undef, .undef, .undef, .undef, .undef, .undef, .undef, .undef, .undef, .undef, .undef, .undef, .undef, .undef, .undef, .undef, .undef, .undef, .undef, .undef, .undef, .undef, .undef, .undef, .undef, .undef, .undef, .undef, .undef, .undef, .undef, .undef, .undef, .undef, .undef, .undef, .undef, .undef, .undef, .undef, .undef, .undef, .undef, .undef, .undef, .undef, .undef, .undef, .undef, .undef, .undef, .undef, .undef, .undef, .undef, .undef, .undef, .undef, .undef, .undef, .undef, .undef, .undef]) f.length ?_ ?_
  · refine ⟨0, by simp, by omega, ?_⟩
    rw [show (bstack (f.take 0) m).map encBool = [] from rfl]
    (rw [clr_eq]; rotate_left; rfl; simp only [keepB, go_sem, Nat.reduceBEq, Nat.reduceAdd, cond_true, cond_false, *]; simp only [clrG, Nat.reduceBEq, Nat.reduceAdd, cond_true, cond_false])
    first | done | rfl
  rintro n S ⟨i, hn, hi, rfl⟩
  have hwi : IntKind.i64.wrap ((i : Int) + 1) = ((i + 1 : Nat) : Int) := by rw [wrap_small] <;> omega
  by_cases hlt : i < f.length
  · have hd : decide ((i : Int) < (f.length : Int)) = true := by simp [hlt]
    obtain ⟨t, hti⟩ : ∃ t, f[i]? = some t := ⟨f[i], by simp [hlt]⟩
    obtain ⟨ht, htk⟩ := left_at m hf hti
    have hsucc := bstack_succ hti m
    have hsl := bstack_le f m i hi
    have hi0 : (0 : Int) ≤ (i : Int) := by omega
    have hi1 : (i : Int) < (f.length : Int) := by omega
    obtain ⟨st, hst⟩ : ∃ st, bstack (f.take i) m = st := ⟨_, rfl⟩
    rw [hst] at htk hsucc hsl ⊢
    obtain ⟨st', hst'⟩ : ∃ st', bstep m st t = st' := ⟨_, rfl⟩
    rw [hst'] at hsucc
    have hsl2 : st.length ≤ 12 := by omega
    rcases takes_cases (takesI_le t.op).2 with ⟨k0, k8, k9, k10⟩ | ⟨k8, hk⟩ | ⟨k9, hk⟩ | ⟨k10, hk⟩
    · have e0 : st.map encBool ++ [.bool (saysB t m)] = st'.map encBool := by rw [← hst', bstep_lay k0, List.map_append]; rfl
      clear hst hst' htk hend hf hsl
      (all_goals (have E0 := @encMsg.eq_1))
      (all_goals (have E1 := @encT.eq_1))
      (all_goals (have E2 := @encBool.eq_1))
      repeat' (first | refine sFnPd81F ?_ | (refine two ?_ ?_; all_goals (intro h; try simp only [Bool.not_eq_true', Bool.not_eq_false', reduceCtorEq] at h)) | fail)
      all_goals (try clear E0 E1 E2)
      all_goals (
        refine ⟨f.length - (i + 1), by omega, i + 1, rfl, by omega, ?_⟩
        rw [hsucc]
        (rw [clr_eq]; rotate_left; rfl; simp only [keepB, go_sem, Nat.reduceBEq, Nat.reduceAdd, cond_true, cond_false, *]; simp only [clrG, Nat.reduceBEq, Nat.reduceAdd, cond_true, cond_false])
        first | done | rfl)
    · obtain ⟨p, hp⟩ : ∃ p, st.length = p + 1 := ⟨st.length - 1, by omega⟩
      obtain ⟨b, hb⟩ : ∃ b, st[p]? = some b := ⟨st[p]'(by omega), List.getElem?_eq_getElem _⟩
      have e8 := bstep_not (m := m) k8 hp hb
      rw [hst'] at e8
      have w1 : IntKind.i64.wrap ((st.length : Int) - 1) = (p : Int) := by rw [wrap_small] <;> omega
      have hp0 : (0 : Int) ≤ (p : Int) := by omega
      have hp1 : (p : Int) < (st.length : Int) := by omega
      have hp2 : p < st.length := by omega
      have z8 : (t.op == 8) = true := by rw [k8]; rfl
      clear hst hst' htk hend hf hsl hk hp k8
      (all_goals (have E0 := @encMsg.eq_1))
      (all_goals (have E1 := @encT.eq_1))
      (all_goals (have E2 := @encBool.eq_1))
      repeat' (first | refine sFnPd81F ?_ | (refine two ?_ ?_; all_goals (intro h; try simp only [Bool.not_eq_true', Bool.not_eq_false', reduceCtorEq] at h)) | fail)
      all_goals (try clear E0 E1 E2)
      all_goals (
        refine ⟨f.length - (i + 1), by omega, i + 1, rfl, by omega, ?_⟩
        rw [hsucc]
        (rw [clr_eq]; rotate_left; rfl; simp only [keepB, go_sem, Nat.reduceBEq, Nat.reduceAdd, cond_true, cond_false, *]; simp only [clrG, Nat.reduceBEq, Nat.reduceAdd, cond_true, cond_false])
        first | done | rfl)
    · obtain ⟨q, hq⟩ : ∃ q, st.length = q + 2 := ⟨st.length - 2, by omega⟩
      obtain ⟨a, ha⟩ : ∃ a, st[q]? = some a := ⟨st[q]'(by omega), List.getElem?_eq_getElem _⟩
      obtain ⟨b, hb⟩ : ∃ b, st[q + 1]? = some b := ⟨st[q + 1]'(by omega), List.getElem?_eq_getElem _⟩
      have w1 : IntKind.i64.wrap ((st.length : Int) - 1) = ((q + 1 : Nat) : Int) := by rw [wrap_small] <;> omega
      have w2 : IntKind.i64.wrap ((st.length : Int) - 2) = (q : Int) := by rw [wrap_small] <;> omega
      have hp0 : (0 : Int) ≤ (q : Int) := by omega
      have hp1 : (q : Int) < (st.length : Int) := by omega
      have hp2 : q < st.length := by omega
      have hp3 : (q : Int) ≤ (st.length : Int) := by omega
      have hr0 : (0 : Int) ≤ ((q + 1 : Nat) : Int) := by omega
      have hr1 : ((q + 1 : Nat) : Int) < (st.length : Int) := by omega
      have hr2 : q + 1 < st.length := by omega
      have hr3 : ((q + 1 : Nat) : Int) ≤ (st.length : Int) := by omega
      have z8 : (t.op == 8) = false := by rw [k9]; rfl
      have z9 : (t.op == 9) = true := by rw [k9]; rfl
      have hql : (List.take q (List.map encBool st)).length ≤ 12 := by simp; omega
      cases a with
      | true =>
        have e9 := bstep_two (m := m) (t := t) (.inl k9) hq ha hb (x := b) (by rw [k9]; rfl)
        rw [hst'] at e9
        obtain ⟨e9, e9'⟩ := e9
        clear hst hst' htk hend hf hsl hk hq k9
        (all_goals (have E0 := @encMsg.eq_1))
        (all_goals (have E1 := @encT.eq_1))
        (all_goals (have E2 := @encBool.eq_1))
        repeat' (first | refine sFnPd81F ?_ | (refine two ?_ ?_; all_goals (intro h; try simp only [Bool.not_eq_true', Bool.not_eq_false', reduceCtorEq] at h)) | fail)
        all_goals (try clear E0 E1 E2)
        all_goals (
          refine ⟨f.length - (i + 1), by omega, i + 1, rfl, by omega, ?_⟩
          rw [hsucc]
          (rw [clr_eq]; rotate_left; rfl; simp only [keepB, go_sem, Nat.reduceBEq, Nat.reduceAdd, cond_true, cond_false, *]; simp only [clrG, Nat.reduceBEq, Nat.reduceAdd, cond_true, cond_false])
          first | done | rfl)
      | false =>
        have e9 := bstep_two (m := m) (t := t) (.inl k9) hq ha hb (x := false) (by rw [k9]; rfl)
        rw [hst'] at e9
        obtain ⟨e9, e9'⟩ := e9
        clear hst hst' htk hend hf hsl hk hq k9
        (all_goals (have E0 := @encMsg.eq_1))
        (all_goals (have E1 := @encT.eq_1))
        (all_goals (have E2 := @encBool.eq_1))
        repeat' (first | refine sFnPd81F ?_ | (refine two ?_ ?_; all_goals (intro h; try simp only [Bool.not_eq_true', Bool.not_eq_false', reduceCtorEq] at h)) | fail)
        all_goals (try clear E0 E1 E2)
        all_goals (
          refine ⟨f.length - (i + 1), by omega, i + 1, rfl, by omega, ?_⟩
          rw [hsucc]
          (rw [clr_eq]; rotate_left; rfl; simp only [keepB, go_sem, Nat.reduceBEq, Nat.reduceAdd, cond_true, cond_false, *]; simp only [clrG, Nat.reduceBEq, Nat.reduceAdd, cond_true, cond_false])
          first | done | rfl)
    · obtain ⟨q, hq⟩ : ∃ q, st.length = q + 2 := ⟨st.length - 2, by omega⟩
      obtain ⟨a, ha⟩ : ∃ a, st[q]? = some a := ⟨st[q]'(by omega), List.getElem?_eq_getElem _⟩
      obtain ⟨b, hb⟩ : ∃ b, st[q + 1]? = some b := ⟨st[q + 1]'(by omega), List.getElem?_eq_getElem _⟩
      have w1 : IntKind.i64.wrap ((st.length : Int) - 1) = ((q + 1 : Nat) : Int) := by rw [wrap_small] <;> omega
      have w2 : IntKind.i64.wrap ((st.length : Int) - 2) = (q : Int) := by rw [wrap_small] <;> omega
      have hp0 : (0 : Int) ≤ (q : Int) := by omega
      have hp1 : (q : Int) < (st.length : Int) := by omega
      have hp2 : q < st.length := by omega
      have hp3 : (q : Int) ≤ (st.length : Int) := by omega
      have hr0 : (0 : Int) ≤ ((q + 1 : Nat) : Int) := by omega
      have hr1 : ((q + 1 : Nat) : Int) < (st.length : Int) := by omega
      have hr2 : q + 1 < st.length := by omega
      have hr3 : ((q + 1 : Nat) : Int) ≤ (st.length : Int) := by omega
      have z8 : (t.op == 8) = false := by rw [k10]; rfl
      have z9 : (t.op == 9) = false := by rw [k10]; rfl
      have z10 : (t.op == 10) = true := by rw [k10]; rfl
      have hql : (List.take q (List.map encBool st)).length ≤ 12 := by simp; omega
      cases a with
      | false =>
        have e9 := bstep_two (m := m) (t := t) (.inr k10) hq ha hb (x := b) (by rw [k10]; rfl)
        rw [hst'] at e9
        obtain ⟨e9, e9'⟩ := e9
        clear hst hst' htk hend hf hsl hk hq k10
        (all_goals (have E0 := @encMsg.eq_1))
        (all_goals (have E1 := @encT.eq_1))
        (all_goals (have E2 := @encBool.eq_1))
        repeat' (first | refine sFnPd81F ?_ | (refine two ?_ ?_; all_goals (intro h; try simp only [Bool.not_eq_true', Bool.not_eq_false', reduceCtorEq] at h)) | fail)
        all_goals (try clear E0 E1 E2)
        all_goals (
          refine ⟨f.length - (i + 1), by omega, i + 1, rfl, by omega, ?_⟩
          rw [hsucc]
          (rw [clr_eq]; rotate_left; rfl; simp only [keepB, go_sem, Nat.reduceBEq, Nat.reduceAdd, cond_true, cond_false, *]; simp only [clrG, Nat.reduceBEq, Nat.reduceAdd, cond_true, cond_false])
          first | done | rfl)
      | true =>
        have e9 := bstep_two (m := m) (t := t) (.inr k10) hq ha hb (x := true) (by rw [k10]; rfl)
        rw [hst'] at e9
        obtain ⟨e9, e9'⟩ := e9
        clear hst hst' htk hend hf hsl hk hq k10
        (all_goals (have E0 := @encMsg.eq_1))
        (all_goals (have E1 := @encT.eq_1))
        (all_goals (have E2 := @encBool.eq_1))
        repeat' (first | refine sFnPd81F ?_ | (refine two ?_ ?_; all_goals (intro h; try simp only [Bool.not_eq_true', Bool.not_eq_false', reduceCtorEq] at h)) | fail)
        all_goals (try clear E0 E1 E2)
        all_goals (
          refine ⟨f.length - (i + 1), by omega, i + 1, rfl, by omega, ?_⟩
          rw [hsucc]
          (rw [clr_eq]; rotate_left; rfl; simp only [keepB, go_sem, Nat.reduceBEq, Nat.reduceAdd, cond_true, cond_false, *]; simp only [clrG, Nat.reduceBEq, Nat.reduceAdd, cond_true, cond_false])
          first | done | rfl)
  · have hd : decide ((i : Int) < (f.length : Int)) = false := by simp; omega
    have ht : f.take i = f := List.take_of_length_le (by omega)
    rw [ht]
    rcases hend with ⟨hnil, hs⟩ | ⟨hne, b, hs⟩
    · have hv := leftB_nil hs
      subst hnil
      rw [hv, hs]
      clear hv hs ht hf hd
      have hd : decide ((i : Int) < 0) = false := decide_eq_false (by omega)
      have hz0 : ((0 : Int) == 0) = true := rfl
      simp only [List.map_nil, List.length_nil]
      exact wFnPd81_0
    · have hv := leftB_one hs
      have hz : ((f.length : Int) == 0) = false := by
        have : f.length ≠ 0 := fun e => hne (List.eq_nil_of_length_eq_zero e)
        rw [beq_eq_false_iff_ne]; omega
      have hz1 : (((1 : Nat) : Int) == 0) = false := rfl
      rw [hv, hs]
      clear hv hs ht hf hne
      simp only [List.map_cons, List.map_nil, encBool]
      exact wFnPd81_0
noncomputable abbrev ic_impl_passes := Con.mk (P := P) (f := 81) Tryz.call81 @c_impl_passes
attribute [instance] ic_impl_passes
end Go.Proofs.YtlgdijjkegeccaaGreat
