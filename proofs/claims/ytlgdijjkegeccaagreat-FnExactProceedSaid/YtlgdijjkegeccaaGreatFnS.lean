/- Contracts: a ring that is right. -/
import Derived.Test.YtlgdijjkegeccaaGreatFnSw
namespace Go.Proofs.YtlgdijjkegeccaaGreat
open Go Go.RowKit Go.Bv
set_option linter.unusedSimpArgs false
set_option linter.unusedVariables false
set_option maxRecDepth 4000
set_option maxHeartbeats 1000000
/-! The walks that end. -/
theorem sFnS25 {p q : Prop} (k : q) (h : q → p := by
  first
  | exact shAR 6 (by exact i_S hT [[], [0], [], [2], [2, 3], [0, 1, 2, 3, 4], [0, 1, 2, 3, 4, 5], [0, 1, 2, 3, 4, 5, 6], [0, 1, 2, 3, 4, 5, 6, 7], [0, 1, 2, 3, 4, 5, 6, 7, 8], [0, 1, 2, 3, 4, 5, 6, 7, 8, 9], [0, 1, 2, 3, 4, 5, 6, 7, 8, 9, 10], [0, 1, 2, 3, 4, 5, 6, 7, 8, 9, 10, 11], [0, 1, 2, 3, 4, 5, 6, 7, 8, 9, 10], [0, 1, 2, 3, 4, 5, 6, 7, 8, 9, 10, 13], [0, 1, 2, 3, 4, 5, 6, 7, 8, 9, 10, 11, 12, 13, 14], [0, 1, 2, 3, 4, 5, 6, 7, 8, 9, 10, 11, 12, 13, 14, 15], [0, 1, 2, 3, 4, 5, 6, 7, 8, 9, 10, 11, 12, 13, 14, 15, 16], [0, 1, 2, 3, 4, 5, 6, 7, 8, 9, 10], [0, 1, 2, 3, 4, 5, 6, 7, 8, 9, 10, 18], [0, 1, 2, 3, 4, 5, 6, 7, 8, 9, 10, 11, 12, 13, 14, 15, 16, 17, 18, 19], [0, 1, 2, 3, 4, 5, 6, 7, 8, 9, 10, 11, 12, 13, 14, 15, 16, 17, 18, 19, 20], [0, 1, 2, 3, 4, 5, 6, 7, 8, 9, 10, 11, 12, 13, 14, 15, 16, 17, 18, 19, 20, 21], [0, 1, 2, 3, 4, 5, 6, 7, 8, 9, 10, 11, 12, 13, 14, 15, 16, 17, 18, 19, 20, 21, 22], [0, 1, 2, 3, 4, 5, 6, 7, 8, 9, 10, 11, 12, 13, 14, 15, 16, 17, 18, 19, 20, 21, 22, 23], [0, 1, 2, 3, 4, 5, 6, 7, 8, 9, 10, 11, 12, 13, 14, 15, 16, 17, 18, 19, 20, 21, 22, 23], [0, 1, 2, 3, 4, 5, 6, 7, 8, 9, 10, 11, 12, 13, 14, 15, 16, 17, 18, 19, 20, 21, 22, 23, 24, 25], [0, 1, 2, 3, 4, 5, 6, 7, 8, 9, 10, 11, 12, 13, 14, 15, 16, 17, 18, 19, 20, 21, 22, 23, 24, 25, 26], [0, 1, 2, 3, 4, 5, 6, 7, 8, 9, 10, 11, 12, 13, 14, 15, 16, 17, 18, 19, 20, 21, 22, 23, 24, 25, 26, 27]] [35, 36, 37, 38, 39, 40, 41, 42, 43, 44, 45, 46, 47, 48, 49, 50, 51, 52, 53, 54, 55, 56, 57, 58, 59, 60, 61, 62, 63])
  | exact shAR 11 (by exact i_S hT [[], [0], [0, 1], [], [3], [], [5], [3, 4, 5, 6], [0, 1, 2, 3, 4, 5, 6, 7], [0, 1, 2, 3, 4, 5, 6, 7, 8], [0, 1, 2, 3, 4, 5, 6, 7, 8, 9], [0, 1, 2, 3, 4, 5, 6, 7, 8, 9, 10], [0, 1, 2, 3, 4, 5, 6, 7, 8, 9, 10, 11], [0, 1, 2, 3, 4, 5, 6, 7, 8, 9, 10, 11, 12]] [68, 69, 70, 71, 72, 73, 74, 75, 76, 77, 78, 79, 80, 2])
  | exact i1
  | fail) : p := h k
theorem wFnS25_0 {p : Prop} (h : p := by
  have E0 := @encRing.eq_1
  have E1 := @encSub.eq_1
  repeat' (first | refine sFnS25 ?_ | (refine two ?_ ?_; all_goals (intro h; try simp only [Bool.not_eq_true', Bool.not_eq_false', reduceCtorEq] at h)) | fail)
  all_goals (simp only [go_sem, *]; first | done | rfl)) : p := h
theorem wFnS25_1 {p : Prop} (h : p := by
  have E0 := @encRing.eq_1
  repeat' (first | refine sFnS25 ?_ | (refine two ?_ ?_; all_goals (intro h; try simp only [Bool.not_eq_true', Bool.not_eq_false', reduceCtorEq] at h)) | fail)
  all_goals (simp only [go_sem, *]; first | done | rfl)) : p := h

theorem c_ringOk_clo (m : MsgV) (hm : okMsg m) : Sound P 58 [encMsg false m] (.bool (!msgB m)) := by
  refine snd_b hT Tryz.func58 Tryz.results58 Tryz.ntmps58 ?_
  (all_goals (have E0 := @encMsg.eq_1))
  repeat' (first | refine one ?_ | (refine two ?_ ?_; all_goals (intro h; try simp only [Bool.not_eq_true', Bool.not_eq_false', reduceCtorEq] at h)) | fail)
  all_goals (try clear E0)
  all_goals (simp only [go_sem, *])
set_option maxHeartbeats 8000000 in
theorem c_impl_RingOk (r : RingV) {u : AV} (hu : u = encRing false r) (hr : okRing r) (h1 : r.line.length ≤ 1048576) (h2 : r.grants.length ≤ 1048576) : Sound P 25 [u] (.bool (ringB r)) := by
  subst hu
  have hl : r.subs.length < 4611686018427387904 := hr.2.1.1
  have hp : ∀ x ∈ r.items, Sound P 58 (encMsg false x :: []) (.bool ((fun m => !msgB m) x)) := fun x hx => c_ringOk_clo x (hr.1.2 x hx)
  have hg := Tryz.call58
  have hcf := c_slices_ContainsFunc_impl_Msg_impl_Msg r.items _ hp hg rfl hr.1.1
  clear hp hg
  rcases (by omega : ¬ (1 ≤ r.cap ∧ r.cap ≤ 16) ∨ ((1 ≤ r.cap ∧ r.cap ≤ 16) ∧ ¬ (0 ≤ r.sent ∧ r.sent ≤ 1000000000)) ∨ ((1 ≤ r.cap ∧ r.cap ≤ 16) ∧ (0 ≤ r.sent ∧ r.sent ≤ 1000000000) ∧ ¬ (0 ≤ r.next ∧ r.next ≤ 1000000000)) ∨ ((1 ≤ r.cap ∧ r.cap ≤ 16) ∧ (0 ≤ r.sent ∧ r.sent ≤ 1000000000) ∧ (0 ≤ r.next ∧ r.next ≤ 1000000000))) with hc | hc | hc | hc
  · have k1 : (decide (r.cap ≥ 1) && decide (r.cap ≤ 16)) = false := by rw [Bool.and_eq_false_iff]; simp only [decide_eq_false_iff_not]; omega
    have h6 : ringB r = false := by rw [ringB, k1]; simp only [Bool.false_and]
    refine snd_b hT Tryz.func25 Tryz.results25 Tryz.ntmps25 ?_
    (all_goals (have E0 := @encRing.eq_1))
    repeat' (first | refine sFnS25 ?_ | (refine two ?_ ?_; all_goals (intro h; try simp only [Bool.not_eq_true', Bool.not_eq_false', reduceCtorEq] at h)) | fail)
    all_goals (try clear E0)
    all_goals ((simp only [go_sem, *]); first | done | (simp [h6]; done))
  · have k1 : (decide (r.cap ≥ 1) && decide (r.cap ≤ 16)) = true := by rw [Bool.and_eq_true]; simp only [decide_eq_true_eq]; omega
    have k2 : (decide (r.sent ≥ 0) && decide (r.sent ≤ 1000000000)) = false := by rw [Bool.and_eq_false_iff]; simp only [decide_eq_false_iff_not]; omega
    have h6 : ringB r = false := by rw [ringB, k2]; simp only [Bool.false_and, Bool.and_false]
    refine snd_b hT Tryz.func25 Tryz.results25 Tryz.ntmps25 ?_
    (all_goals (have E0 := @encRing.eq_1))
    repeat' (first | refine sFnS25 ?_ | (refine two ?_ ?_; all_goals (intro h; try simp only [Bool.not_eq_true', Bool.not_eq_false', reduceCtorEq] at h)) | fail)
    all_goals (try clear E0)
    all_goals ((simp only [go_sem, *]); first | done | (simp [h6]; done))
  · have k1 : (decide (r.cap ≥ 1) && decide (r.cap ≤ 16)) = true := by rw [Bool.and_eq_true]; simp only [decide_eq_true_eq]; omega
    have k2 : (decide (r.sent ≥ 0) && decide (r.sent ≤ 1000000000)) = true := by rw [Bool.and_eq_true]; simp only [decide_eq_true_eq]; omega
    have k3 : (decide (r.next ≥ 0) && decide (r.next ≤ 1000000000)) = false := by rw [Bool.and_eq_false_iff]; simp only [decide_eq_false_iff_not]; omega
    have h6 : ringB r = false := by rw [ringB, k3]; simp only [Bool.false_and, Bool.and_false]
    refine snd_b hT Tryz.func25 Tryz.results25 Tryz.ntmps25 ?_
    (all_goals (have E0 := @encRing.eq_1))
    repeat' (first | refine sFnS25 ?_ | (refine two ?_ ?_; all_goals (intro h; try simp only [Bool.not_eq_true', Bool.not_eq_false', reduceCtorEq] at h)) | fail)
    all_goals (try clear E0)
    all_goals ((simp only [go_sem, *]); first | done | (simp [h6]; done))
  · have k1 : (decide (r.cap ≥ 1) && decide (r.cap ≤ 16)) = true := by rw [Bool.and_eq_true]; simp only [decide_eq_true_eq]; omega
    have k2 : (decide (r.sent ≥ 0) && decide (r.sent ≤ 1000000000)) = true := by rw [Bool.and_eq_true]; simp only [decide_eq_true_eq]; omega
    have k3 : (decide (r.next ≥ 0) && decide (r.next ≤ 1000000000)) = true := by rw [Bool.and_eq_true]; simp only [decide_eq_true_eq]; omega
    have hb : r.sent ≤ 1000000000 := by omega
    have ho1 : -9223372036854775808 ≤ r.sent - r.cap := by omega
    have ho2 : r.sent - r.cap ≤ 9223372036854775807 := by omega
    have hwn : IntKind.i64.wrap (r.next - 1) = r.next - 1 := by rw [wrap_small] <;> omega
    by_cases h12 : r.subs.length ≤ 12
    · have k4 : decide ((r.subs.length : Int) > 12) = false := by simp; omega
      have hpre : ringB r = (allTo (subsQ r) r.subs.length && r.items.all msgB && ((r.items.length : Int) == r.sent - oldestI r) && waitB r) := by
        rw [ringB, k1, k2, k3, decide_eq_true h12]; rfl
      rw [hpre]
      clear hpre
      refine snd_b hT Tryz.func25 Tryz.results25 Tryz.ntmps25 ?_
      (all_goals (have E0 := @encRing.eq_1))
      repeat' (first | refine sFnS25 ?_ | (refine two ?_ ?_; all_goals (intro h; try simp only [Bool.not_eq_true', Bool.not_eq_false', reduceCtorEq] at h)) | fail)
      all_goals (try clear E0)
      refine aw_loop [3, 4, 5, 6, 7, 8, 9, 10, 11, 12, 13, 14, 15, 16, 17, 18, 19, 20, 21, 22, 23, 24, 25, 26, 27, 31, 32, 33, 34, 35, 36, 37, 38, 39, 40, 41, 42, 43, 44, 45, 46, 47, 48, 49, 50, 51, 52, 53, 54, 55, 56, 57, 58, 59, 60, 61, 62, 63, 64, 65, 66, 67, 68, 69, 70, 71, 72, 73, 74, 75, 76, 77, 78, 79, 80] (fun n S => ∃ i : Nat, n = r.subs.length - i ∧ i ≤ r.subs.length ∧ allTo (subsQ r) i = true ∧ S = [encRing false r, .box (encRing false r), .bool false, .undef, .undef, .undef, .undef, .undef, .undef, .undef, .undef, .undef, .undef, .undef, .undef, .undef, .undef, .undef, .undef, .undef, .undef, .undef, .undef, .undef, .undef, .undef, .undef, .undef, .lst false 7 (r.subs.map (encSub false)), .int .i64 r.subs.length, .int .i64 i, .undef, .undef, .undef, .undef, .undef, .undef, .undef, .undef, .undef, .undef, .undef, .undef, .undef, .undef, .undef, .undef, .undef, .undef, .undef, .undef, .undef, .undef, .undef, .undef, .undef, .undef, .undef, .undef, .undef, .undef, .undef, .undef, .undef, .undef, .undef, .undef, .undef, .undef, .undef, .undef, .undef, .undef, .undef, .undef, .undef, .undef, .undef, .undef, .undef, .undef]) r.subs.length ?_ ?_
      · refine ⟨0, by simp, by omega, rfl, ?_⟩
        simp only [clr, go_sem]
        first | done | rfl
      · skip
        rintro n S ⟨i, hn, hi, ha, rfl⟩
        have hwi : IntKind.i64.wrap ((i : Int) + 1) = ((i + 1 : Nat) : Int) := by rw [wrap_small] <;> omega
        by_cases hlt : i < r.subs.length
        · have hd : decide ((i : Int) < (r.subs.length : Int)) = true := by simp [hlt]
          obtain ⟨s, hsi⟩ : ∃ s, r.subs[i]? = some s := ⟨r.subs[i], by simp [hlt]⟩
          have hs : okSub s := hr.2.1.2 s (List.mem_of_getElem? hsi)
          have hq : subsQ r i = ((decide (s.id ≥ 0) && decide (s.id ≤ r.next - 1)) && subB r s && (decide (i = 0) || match r.subs[i - 1]? with | some q => decide (q.id < s.id) | none => true)) := by
            simp only [subsQ, hsi]; rfl
          cases hI : (decide (s.id ≥ 0) && decide (s.id ≤ r.next - 1))
          · have hf : allTo (subsQ r) r.subs.length = false := allTo_not hlt (by rw [hq, hI]; rfl)
            rw [hf]
            clear hq
            exact wFnS25_0
          · rw [hI, Bool.true_and] at hq
            by_cases hi0 : i = 0
            · have hgt : decide ((i : Int) > 0) = false := by simp [hi0]
              rw [decide_eq_true hi0, Bool.true_or, Bool.and_true] at hq
              clear hi0
              cases hB : subB r s
              · have hf : allTo (subsQ r) r.subs.length = false := allTo_not hlt (by rw [hq, hB])
                rw [hf]
                clear hq
                exact wFnS25_0
              · rw [hB] at hq
                (all_goals (have E0 := @encRing.eq_1))
                (all_goals (have E1 := @encSub.eq_1))
                repeat' (first | refine sFnS25 ?_ | (refine two ?_ ?_; all_goals (intro h; try simp only [Bool.not_eq_true', Bool.not_eq_false', reduceCtorEq] at h)) | fail)
                all_goals (try clear E0 E1)
                all_goals (
                  refine ⟨r.subs.length - (i + 1), by omega, i + 1, rfl, by omega, by rw [allTo_succ, ha, hq]; rfl, ?_⟩
                  simp only [clr, go_sem]
                  first | done | rfl)
            · have hgt : decide ((i : Int) > 0) = true := by simp; omega
              have hwm : IntKind.i64.wrap ((i : Int) - 1) = ((i - 1 : Nat) : Int) := by rw [wrap_small] <;> omega
              obtain ⟨q, hqi⟩ : ∃ q, r.subs[i - 1]? = some q := ⟨r.subs[i - 1]'(by omega), List.getElem?_eq_getElem _⟩
              rw [decide_eq_false hi0, hqi, Bool.false_or] at hq
              simp only at hq
              cases hP : decide (q.id ≥ s.id)
              · have hP2 : decide (q.id < s.id) = true := by simp only [decide_eq_false_iff_not, decide_eq_true_eq] at *; omega
                rw [hP2, Bool.and_true] at hq
                cases hB : subB r s
                · have hf : allTo (subsQ r) r.subs.length = false := allTo_not hlt (by rw [hq, hB])
                  rw [hf]
                  clear hq
                  exact wFnS25_0
                · rw [hB] at hq
                  (all_goals (have E0 := @encRing.eq_1))
                  (all_goals (have E1 := @encSub.eq_1))
                  repeat' (first | refine sFnS25 ?_ | (refine two ?_ ?_; all_goals (intro h; try simp only [Bool.not_eq_true', Bool.not_eq_false', reduceCtorEq] at h)) | fail)
                  all_goals (try clear E0 E1)
                  all_goals (
                    refine ⟨r.subs.length - (i + 1), by omega, i + 1, rfl, by omega, by rw [allTo_succ, ha, hq]; rfl, ?_⟩
                    simp only [clr, go_sem]
                    first | done | rfl)
              · have hP2 : decide (q.id < s.id) = false := by simp only [decide_eq_false_iff_not, decide_eq_true_eq] at *; omega
                rw [hP2, Bool.and_false] at hq
                have hf : allTo (subsQ r) r.subs.length = false := allTo_not hlt hq
                rw [hf]
                clear hq
                exact wFnS25_0
        · have hd : decide ((i : Int) < (r.subs.length : Int)) = false := by simp; omega
          have e : i = r.subs.length := by omega
          have hf : allTo (subsQ r) r.subs.length = true := by rw [← e]; exact ha
          clear e
          rw [hf]
          obtain ⟨o1, o2, _⟩ := oldestI_in (r := r) (by omega) (by omega)
          have hwo : IntKind.i64.wrap (r.sent - oldestI r) = r.sent - oldestI r := by rw [wrap_small] <;> omega
          rw [any_not] at hcf
          cases hM : r.items.all msgB
          · rw [hM] at hcf
            exact wFnS25_1
          · rw [hM] at hcf
            cases hE : ((r.items.length : Int) == r.sent - oldestI r)
            · skip
              exact wFnS25_1
            · skip
              exact wFnS25_1
    · have k4 : decide ((r.subs.length : Int) > 12) = true := by simp; omega
      have h6 : ringB r = false := by rw [ringB, decide_eq_false h12]; simp only [Bool.false_and, Bool.and_false]
      refine snd_b hT Tryz.func25 Tryz.results25 Tryz.ntmps25 ?_
      (all_goals (have E0 := @encRing.eq_1))
      repeat' (first | refine sFnS25 ?_ | (refine two ?_ ?_; all_goals (intro h; try simp only [Bool.not_eq_true', Bool.not_eq_false', reduceCtorEq] at h)) | fail)
      all_goals (try clear E0)
      all_goals ((simp only [go_sem, *]); first | done | (simp [h6]; done))
noncomputable abbrev ic_impl_RingOk := Con.mk (P := P) (f := 25) Tryz.call25 @c_impl_RingOk
attribute [instance] ic_impl_RingOk
end Go.Proofs.YtlgdijjkegeccaaGreat
