/- The last part of the specification's RingOk. -/
import Derived.Test.YtcgkejggkenecaaFnRk
import Derived.Test.YtcgkejggkenecaaBvDt
import Derived.Test.YtcgkejggkenecaaFnSl
namespace Go.Proofs.Ytcgkejggkenecaa
open Go Go.RowKit Go.Bv
set_option linter.unusedSimpArgs false
set_option linter.unusedVariables false
set_option maxRecDepth 4000
set_option maxHeartbeats 1000000
-- KEPT

set_option maxHeartbeats 8000000 in
theorem ringOk5 (r : RingV) (hr : okRing r) (h1 : r.line.length ≤ 1048576) (h2 : r.grants.length ≤ 1048576) {c : Code} (hc : Go.Proofs.Try.f16.body = some c) :
    RestA P (cnth 5 c) (endsA G [ResultVar.tmp 2] (.bool (true && true && true && allTo (waitQ r (r.line ++ r.grants)) (r.line ++ r.grants).length))) [3, 4, 5, 6, 7, 8, 9, 10, 11, 12, 13, 14, 15, 16, 17, 18, 19, 20, 21, 22, 23, 24, 25, 26, 27, 28, 29, 30, 31, 32, 33, 34, 35, 36, 37, 38, 39, 40, 41, 42, 43, 44, 45, 46, 47, 48, 49, 50, 51, 52, 53, 54, 55, 56, 57, 58, 59, 60, 61, 62, 63, 64, 65, 66, 67, 68, 69, 70, 71, 72, 73, 74, 75, 76, 77, 78, 79, 80, 81, 82, 83, 84, 85, 86, 87, 88, 89, 90, 91, 92, 93, 94, 95, 96, 97, 98, 99, 100, 101, 102, 103, 104, 105, 106, 107, 108, 109, 110, 111, 112, 113, 114, 115, 116, 117, 118, 119, 120, 121, 122, 123, 124, 125, 126, 127, 128, 129, 130, 131, 132, 133, 134, 135, 136, 137, 138, 139, 140, 141, 142, 143, 144, 145, 146, 147, 148, 149, 150, 151, 152, 153, 154, 155, 156, 157, 158, 159, 160, 161] [encRing false r, .box (encRing false r), .bool false, .undef, .undef, .undef, .undef, .undef, .undef, .undef, .undef, .undef, .undef, .undef, .undef, .undef, .undef, .undef, .undef, .undef, .undef, .undef, .undef, .undef, .undef, .undef, .undef, .undef, .undef, .undef, .undef, .undef, .undef, .undef, .undef, .undef, .undef, .undef, .undef, .undef, .undef, .undef, .undef, .undef, .undef, .undef, .undef, .undef, .undef, .undef, .undef, .undef, .undef, .undef, .undef, .undef, .undef, .undef, .undef, .undef, .undef, .undef, .undef, .undef, .undef, .undef, .undef, .undef, .undef, .undef, .undef, .undef, .undef, .undef, .undef, .undef, .undef, .undef, .undef, .undef, .undef, .undef, .undef, .undef, .undef, .undef, .undef, .undef, .undef, .undef, .undef, .undef, .undef, .undef, .undef, .undef, .undef, .undef, .undef, .undef, .undef, .undef, .undef, .undef, .undef, .undef, .undef, .undef, .undef, .undef, .undef, .undef, .undef, .undef, .undef, .undef, .undef, .undef, .undef, .undef, .undef, .undef, .undef, .undef, .undef, .undef, .undef, .undef, .undef, .undef, .undef, .undef, .undef, .undef, .undef, .undef, .undef, .undef, .undef, .undef, .undef, .undef, .undef, .undef, .undef, .undef, .undef, .undef, .undef, .undef, .undef, .undef, .undef, .undef, .undef, .undef, .undef, .undef, .undef, .undef, .undef, .undef] := by
  obtain rfl := Option.some.inj (hc.symm.trans (rfl : Go.Proofs.Try.f16.body = some _))
  clear hc
  dsimp only [cnth, csnd]
  refine rest_of ?_
  have hl : r.subs.length < 4611686018427387904 := hr.2.1.1
  have hl1 : r.line.length ≤ 4194304 := by omega
  repeat' (first
  | with_reducible first | refine aw_seq ?_ | refine aw_block ?_ | refine aw_skip ?_ | refine aw_exit ?_
  | with_reducible first | refine aw_ret ?_ | refine thenA_n ?_ | refine thenA_r ?_ | refine thenA_x ?_ | refine blockA_n ?_ | refine blockA_r ?_ | refine blockA_e ?_ | refine blockA_x (by decide) ?_ | refine ends_r ?_ | refine ends_n ?_ | refine ends_rM ?_ | refine ends_nM ?_ | refine aw_reg ?_
  | (with_reducible apply aw_anyT hT (id := 15) [[], [0], [0, 1], [], [3], [0, 1, 2, 3, 4], [0, 1, 2, 3, 4, 5]] 5 [114, 115, 116, 117, 118]
     · simp only [List.take_succ_cons, List.take_zero]; with_reducible rfl
     · simp only [List.drop_succ_cons, List.drop_zero]; with_reducible rfl
     · rfl
     · decide +kernel
     · decide +kernel
     · decide +kernel
     · simp only [go_sem, *])
  | with_reducible refine al_nil ?_
  | (with_reducible apply al_append hT
     · exact gchk_none rfl
     · rfl
     · simp only [go_sem]; first | done | with_reducible rfl
     · simp only [go_sem]
     · simp only [go_sem]; first | done | with_reducible rfl
     · simp only [go_sem]
     · simp only [go_sem, encRing, *]; with_reducible rfl
     · simp only [go_sem, encRing, *]; with_reducible rfl
     · simp only [go_sem, *]
     · simp only [go_sem, encRing, *]; with_reducible rfl
     · simp only [go_sem, encRing, *]; with_reducible rfl
     · simp only [go_sem, *]
     · simp only [go_sem]; first | done | omega
     · simp only [go_sem]; first | done | omega
     · simp only [go_sem]; with_reducible rfl)
  | with_reducible refine ad_nil ?_
  | (with_reducible apply ad_q hT
     · first | exact gchk_none rfl | simp only [go_sem, *]
     · simp only [go_sem, encRing, *]; first | done | with_reducible rfl
     · simp only [go_sem, *]
     · simp only [go_sem]; with_reducible rfl)
  | (with_reducible apply ad_call (f := 64)
     · first | exact gchk_none rfl | simp only [go_sem, *]
     · rfl
     · exact Go.Proofs.Try.call64
     · simp only [go_sem, encRing, *]; with_reducible rfl
     · simp only [go_sem, *]
     · first | assumption | ((with_reducible apply c_spec_l2Copy) <;> first | assumption | rfl | exact Kept.out (by assumption))
     · simp only [go_sem, *]
     · simp only [go_sem]; with_reducible rfl)
  | (with_reducible apply al_s hT false
     · first | exact gchk_none rfl | simp only [go_sem, *]
     · simp only [go_sem, encRing, *]; first | done | with_reducible rfl)
  )
  obtain ⟨A, hA⟩ : ∃ A, r.line ++ r.grants = A := ⟨_, rfl⟩
  have hAl : A.length = r.line.length + r.grants.length := by rw [← hA]; simp
  have hA2 : A.length ≤ 2097152 := by omega
  rw [hA]
  refine aw_loop [3, 4, 7, 8, 9, 10, 11, 12, 13, 14, 15, 16, 17, 18, 19, 20, 21, 22, 23, 24, 25, 26, 27, 28, 29, 30, 31, 32, 33, 34, 35, 36, 37, 38, 39, 40, 41, 42, 43, 44, 45, 46, 47, 48, 49, 50, 51, 52, 53, 54, 55, 56, 57, 58, 59, 60, 61, 62, 63, 64, 65, 66, 67, 68, 69, 70, 71, 72, 73, 74, 75, 76, 77, 78, 79, 80, 81, 82, 83, 84, 85, 86, 87, 88, 89, 90, 91, 92, 93, 94, 95, 96, 97, 98, 99, 100, 101, 102, 103, 104, 105, 106, 107, 108, 109, 110, 111, 112, 113, 114, 115, 116, 117, 118, 119, 120, 121, 122, 123, 124, 125, 126, 127, 128, 129, 130, 131, 132, 133, 134, 135, 136, 137, 138, 139, 140, 141, 142, 143, 144, 145, 146, 147, 148, 149, 150, 151, 152, 153, 154, 155, 156, 157, 158, 159, 160, 161] (fun n S => ∃ i : Nat, n = A.length - i ∧ i ≤ A.length ∧ allTo (waitQ r A) i = true ∧ S = [encRing false r, .box (encRing false r), .bool false, .undef, .undef, .lst true 1 (A.map encInt), .int .i64 i, .undef, .undef, .undef, .undef, .undef, .undef, .undef, .undef, .undef, .undef, .undef, .undef, .undef, .undef, .undef, .undef, .undef, .undef, .undef, .undef, .undef, .undef, .undef, .undef, .undef, .undef, .undef, .undef, .undef, .undef, .undef, .undef, .undef, .undef, .undef, .undef, .undef, .undef, .undef, .undef, .undef, .undef, .undef, .undef, .undef, .undef, .undef, .undef, .undef, .undef, .undef, .undef, .undef, .undef, .undef, .undef, .undef, .undef, .undef, .undef, .undef, .undef, .undef, .undef, .undef, .undef, .undef, .undef, .undef, .undef, .undef, .undef, .undef, .undef, .undef, .undef, .undef, .undef, .undef, .undef, .undef, .undef, .undef, .undef, .undef, .undef, .undef, .undef, .undef, .undef, .undef, .undef, .undef, .undef, .undef, .undef, .undef, .undef, .undef, .undef, .undef, .undef, .undef, .undef, .undef, .undef, .undef, .undef, .undef, .undef, .undef, .undef, .undef, .undef, .undef, .undef, .undef, .undef, .undef, .undef, .undef, .undef, .undef, .undef, .undef, .undef, .undef, .undef, .undef, .undef, .undef, .undef, .undef, .undef, .undef, .undef, .undef, .undef, .undef, .undef, .undef, .undef, .undef, .undef, .undef, .undef, .undef, .undef, .undef, .undef, .undef, .undef, .undef, .undef, .undef]) A.length ?_ ?_
  · refine ⟨0, by simp, by omega, rfl, ?_⟩
    (rw [clr_eq]; rotate_left; rfl; simp only [keepB, go_sem, Nat.reduceBEq, Nat.reduceAdd, cond_true, cond_false, *]; simp only [clrG, Nat.reduceBEq, Nat.reduceAdd, cond_true, cond_false])
    rw [← hA, List.map_append]
    first | done | rfl
  clear hAl hA
  rintro n S ⟨i, hn, hi, ha, rfl⟩
  have hwi : IntKind.i64.wrap ((i : Int) + 1) = ((i + 1 : Nat) : Int) := by rw [wrap_small] <;> omega
  by_cases hlt : i < A.length
  · have hd : decide ((i : Int) < (A.length : Int)) = true := by simp [hlt]
    have hd2 : (i : Int) < (A.length : Int) := by omega
    obtain ⟨id, hid⟩ : ∃ id, A[i]? = some id := ⟨A[i], by simp [hlt]⟩
    have hq : waitQ r A i = (decide (0 ≤ atI r.subs id) && !((A.take i).any (· == id)) && (!(decide (i < r.line.length)) || match r.subs[(atI r.subs id).toNat]? with | some s => s.cursor == r.sent | none => true)) := by
      simp only [waitQ, hid]; rfl
    have htk : List.take i (A.map encInt) = (A.take i).map encInt := (List.map_take ..).symm
    have htl : (A.take i).length < 4611686018427387904 := by simp; omega
    have hi0 : (0 : Int) ≤ (i : Int) := by omega
    have hile : (i : Int) ≤ (A.length : Int) := by omega
    by_cases hneg : atI r.subs id < 0
    · have g2 : decide (atI r.subs id < 0) = true := decide_eq_true hneg
      have hf : allTo (waitQ r A) A.length = false := allTo_not hlt (by rw [hq, decide_eq_false (by omega)]; simp)
      rw [hf]
      clear hq
      repeat' (first
      | with_reducible first | refine aw_seq ?_ | refine aw_block ?_ | refine aw_skip ?_ | refine aw_exit ?_
      | with_reducible first | refine aw_ret ?_ | refine thenA_n ?_ | refine thenA_r ?_ | refine thenA_x ?_ | refine blockA_n ?_ | refine blockA_r ?_ | refine blockA_e ?_ | refine blockA_x (by decide) ?_ | refine ends_r ?_ | refine ends_n ?_ | refine ends_rM ?_ | refine ends_nM ?_ | refine aw_reg ?_
      | (with_reducible apply aw_anyS hT (id := 20) [[], [0], [0, 1], [0, 1, 2], [0, 1, 2], [0, 1, 2, 3, 4], [0, 1, 2], [0, 1, 2], [0, 1, 2, 6, 7], [0, 1, 2, 6, 7, 8], [0, 1, 2, 3, 4, 5, 6, 7, 8, 9], [0, 1, 2, 3, 4, 5, 6, 7, 8, 9, 10], [0, 1, 2, 3, 4, 5, 6, 7, 8, 9, 10, 11], [0, 1, 2, 3, 4, 5, 6, 7, 8, 9, 10, 11, 12], [0, 1, 2, 3, 4, 5, 6, 7, 8, 9, 10, 11, 12], [0, 1, 2, 3, 4, 5, 6, 7, 8, 9, 10, 11, 12, 14], [0, 1, 2, 3, 4, 5, 6, 7, 8, 9, 10, 11, 12, 14, 15], [0, 1, 2, 3, 4, 5, 6, 7, 8, 9, 10, 11, 12, 13, 14, 15, 16], [0, 1, 2, 3, 4, 5, 6, 7, 8, 9, 10, 11, 12, 13, 14, 15, 16, 17], [0, 1, 2, 3, 4, 5, 6, 7, 8, 9, 10, 11, 12, 13, 14, 15, 16, 17, 18], [0, 1, 2, 3, 4, 5, 6, 7, 8, 9, 10, 11, 12, 13, 14, 15, 16, 17, 18, 19], [0, 1, 2, 3, 4, 5, 6, 7, 8, 9, 10, 11, 12, 13, 14, 15, 16, 17, 18], [0, 1, 2, 3, 4, 5, 6, 7, 8, 9, 10, 11, 12, 13, 14, 15, 16, 17, 18, 19, 20, 21], [0, 1, 2, 3, 4, 5, 6, 7, 8, 9, 10, 11, 12, 13, 14, 15, 16, 17, 18, 19, 20, 21, 22], [0, 1, 2, 3, 4, 5, 6, 7, 8, 9, 10, 11, 12, 13, 14, 15, 16, 17, 18, 19, 20, 21, 22, 23], [0, 1, 2, 3, 4, 5, 6, 7, 8, 9, 10, 11, 12, 13, 14, 15, 16, 17, 18], [0, 1, 2, 3, 4, 5, 6, 7, 8, 9, 10, 11, 12, 13, 14, 15, 16, 17, 18, 25], [0, 1, 2, 3, 4, 5, 6, 7, 8, 9, 10, 11, 12, 13, 14, 15, 16, 17, 18, 19, 20, 21, 22, 23, 24, 25, 26], [0, 1, 2, 3, 4, 5, 6, 7, 8, 9, 10, 11, 12, 13, 14, 15, 16, 17, 18, 19, 20, 21, 22, 23, 24, 25, 26, 27], [0, 1, 2, 3, 4, 5, 6, 7, 8, 9, 10, 11, 12, 13, 14, 15, 16, 17, 18, 19, 20, 21, 22, 23, 24, 25, 26, 27, 28]] [132, 133, 134, 135, 136, 137, 138, 139, 140, 141, 142, 143, 144, 145, 146, 147, 148, 149, 150, 151, 152, 153, 154, 155, 156, 157, 158, 159, 160, 161]
         · rfl
         · decide +kernel
         · decide +kernel
         · simp only [go_sem, *])
      | (with_reducible apply aw_anyT hT (id := 19) [[], [], [], [1, 2], [1, 2, 3], [0, 1, 2, 3, 4], [0, 1, 2, 3, 4, 5]] 5 [126, 127, 128, 129, 130]
         · simp only [List.take_succ_cons, List.take_zero]; with_reducible rfl
         · simp only [List.drop_succ_cons, List.drop_zero]; with_reducible rfl
         · rfl
         · decide +kernel
         · decide +kernel
         · decide +kernel
         · simp only [go_sem, *])
      | with_reducible refine al_nil ?_
      | (with_reducible apply aw_cond
         · simp only [go_sem, *]; with_reducible rfl
         all_goals (intro h; try simp only [Bool.not_eq_true', Bool.not_eq_false', reduceCtorEq] at h))
      | (with_reducible apply al_call (f := 65)
         · first | exact gchk_none rfl | simp only [go_sem, *]
         · rfl
         · exact Go.Proofs.Try.call65
         · simp only [go_sem, encRing, encInt, *]; with_reducible rfl
         · simp only [go_sem, *]
         · first | assumption | ((with_reducible apply c_spec_l9At) <;> first | assumption | rfl | exact Kept.out (by assumption))
         · simp only [go_sem]; with_reducible rfl)
      | with_reducible refine ad_nil ?_
      | (with_reducible apply ad_q hT
         · first | exact gchk_none rfl | simp only [go_sem, *]
         · simp only [go_sem, encRing, encInt, *]; first | done | with_reducible rfl
         · simp only [go_sem, *]
         · simp only [go_sem]; with_reducible rfl)
      | (with_reducible apply ad_skip
         · simp only [go_sem, *]
         · simp only [go_sem]; with_reducible rfl)
      | (with_reducible apply al_s hT false
         · first | exact gchk_none rfl | simp only [go_sem, *]
         · simp only [go_sem, encRing, encInt, *]; first | done | with_reducible rfl)
      )
      all_goals ((simp only [go_sem, *]); first | done | rfl)
    · have g2 : decide (atI r.subs id < 0) = false := decide_eq_false hneg
      obtain ⟨k, s, hk, hkl, hks, _⟩ := atI_at (f := r.subs) (id := id) (by omega)
      have g1k : decide ((k : Int) < 0) = false := decide_eq_false (by omega)
      cases hH : (A.take i).any (· == id)
      · have hkl2 : (k : Int) < (r.subs.length : Int) := by omega
        have hk0 : (0 : Int) ≤ (k : Int) := by omega
        by_cases hil : i < r.line.length
        · have g3 : decide ((i : Int) < (r.line.length : Int)) = true := by simp [hil]
          cases hC : (s.cursor != r.sent)
          · have hqt : waitQ r A i = true := by
              rw [hq, hk, hH, Int.toNat_natCast, hks]
              have : (s.cursor == r.sent) = true := by simpa [bne] using hC
              simp [this]
            clear hq
            repeat' (first
            | with_reducible first | refine aw_seq ?_ | refine aw_block ?_ | refine aw_skip ?_ | refine aw_exit ?_
            | with_reducible first | refine aw_ret ?_ | refine thenA_n ?_ | refine thenA_r ?_ | refine thenA_x ?_ | refine blockA_n ?_ | refine blockA_r ?_ | refine blockA_e ?_ | refine blockA_x (by decide) ?_ | refine ends_r ?_ | refine ends_n ?_ | refine ends_rM ?_ | refine ends_nM ?_ | refine aw_reg ?_
            | (with_reducible apply aw_anyS hT (id := 20) [[], [0], [0, 1], [0, 1, 2], [0, 1, 2], [0, 1, 2, 3, 4], [0, 1, 2], [0, 1, 2], [0, 1, 2, 6, 7], [0, 1, 2, 6, 7, 8], [0, 1, 2, 3, 4, 5, 6, 7, 8, 9], [0, 1, 2, 3, 4, 5, 6, 7, 8, 9, 10], [0, 1, 2, 3, 4, 5, 6, 7, 8, 9, 10, 11], [0, 1, 2, 3, 4, 5, 6, 7, 8, 9, 10, 11, 12], [0, 1, 2, 3, 4, 5, 6, 7, 8, 9, 10, 11, 12], [0, 1, 2, 3, 4, 5, 6, 7, 8, 9, 10, 11, 12, 14], [0, 1, 2, 3, 4, 5, 6, 7, 8, 9, 10, 11, 12, 14, 15], [0, 1, 2, 3, 4, 5, 6, 7, 8, 9, 10, 11, 12, 13, 14, 15, 16], [0, 1, 2, 3, 4, 5, 6, 7, 8, 9, 10, 11, 12, 13, 14, 15, 16, 17], [0, 1, 2, 3, 4, 5, 6, 7, 8, 9, 10, 11, 12, 13, 14, 15, 16, 17, 18], [0, 1, 2, 3, 4, 5, 6, 7, 8, 9, 10, 11, 12, 13, 14, 15, 16, 17, 18, 19], [0, 1, 2, 3, 4, 5, 6, 7, 8, 9, 10, 11, 12, 13, 14, 15, 16, 17, 18], [0, 1, 2, 3, 4, 5, 6, 7, 8, 9, 10, 11, 12, 13, 14, 15, 16, 17, 18, 19, 20, 21], [0, 1, 2, 3, 4, 5, 6, 7, 8, 9, 10, 11, 12, 13, 14, 15, 16, 17, 18, 19, 20, 21, 22], [0, 1, 2, 3, 4, 5, 6, 7, 8, 9, 10, 11, 12, 13, 14, 15, 16, 17, 18, 19, 20, 21, 22, 23], [0, 1, 2, 3, 4, 5, 6, 7, 8, 9, 10, 11, 12, 13, 14, 15, 16, 17, 18], [0, 1, 2, 3, 4, 5, 6, 7, 8, 9, 10, 11, 12, 13, 14, 15, 16, 17, 18, 25], [0, 1, 2, 3, 4, 5, 6, 7, 8, 9, 10, 11, 12, 13, 14, 15, 16, 17, 18, 19, 20, 21, 22, 23, 24, 25, 26], [0, 1, 2, 3, 4, 5, 6, 7, 8, 9, 10, 11, 12, 13, 14, 15, 16, 17, 18, 19, 20, 21, 22, 23, 24, 25, 26, 27], [0, 1, 2, 3, 4, 5, 6, 7, 8, 9, 10, 11, 12, 13, 14, 15, 16, 17, 18, 19, 20, 21, 22, 23, 24, 25, 26, 27, 28]] [132, 133, 134, 135, 136, 137, 138, 139, 140, 141, 142, 143, 144, 145, 146, 147, 148, 149, 150, 151, 152, 153, 154, 155, 156, 157, 158, 159, 160, 161]
               · rfl
               · decide +kernel
               · decide +kernel
               · simp only [go_sem, *])
            | (with_reducible apply aw_anyT hT (id := 19) [[], [], [], [1, 2], [1, 2, 3], [0, 1, 2, 3, 4], [0, 1, 2, 3, 4, 5]] 5 [126, 127, 128, 129, 130]
               · simp only [List.take_succ_cons, List.take_zero]; with_reducible rfl
               · simp only [List.drop_succ_cons, List.drop_zero]; with_reducible rfl
               · rfl
               · decide +kernel
               · decide +kernel
               · decide +kernel
               · simp only [go_sem, *])
            | with_reducible refine al_nil ?_
            | (with_reducible apply aw_cond
               · simp only [go_sem, *]; with_reducible rfl
               all_goals (intro h; try simp only [Bool.not_eq_true', Bool.not_eq_false', reduceCtorEq] at h))
            | (with_reducible apply al_call (f := 65)
               · first | exact gchk_none rfl | simp only [go_sem, *]
               · rfl
               · exact Go.Proofs.Try.call65
               · simp only [go_sem, encRing, encInt, encSub, *]; with_reducible rfl
               · simp only [go_sem, *]
               · first | assumption | ((with_reducible apply c_spec_l9At) <;> first | assumption | rfl | exact Kept.out (by assumption))
               · simp only [go_sem]; with_reducible rfl)
            | with_reducible refine ad_nil ?_
            | (with_reducible apply ad_q hT
               · first | exact gchk_none rfl | simp only [go_sem, *]
               · simp only [go_sem, encRing, encInt, encSub, *]; first | done | with_reducible rfl
               · simp only [go_sem, *]
               · simp only [go_sem]; with_reducible rfl)
            | (with_reducible apply ad_snap (f := 66)
               · first | exact gchk_none rfl | simp only [go_sem, *]
               · rfl
               · exact Go.Proofs.Try.call66
               · simp only [go_sem, encRing, encInt, encSub, *]; with_reducible rfl
               · simp only [go_sem, encRing, encInt, encSub, *]; with_reducible rfl
               · first | assumption | ((with_reducible apply c_spec_l2Has) <;> first | assumption | rfl | exact Kept.out (by assumption))
               · simp only [go_sem, *]
               · simp only [go_sem, *]
               · simp only [go_sem]; with_reducible rfl)
            | (with_reducible apply al_s hT false
               · first | exact gchk_none rfl | simp only [go_sem, *]
               · simp only [go_sem, encRing, encInt, encSub, *]; first | done | with_reducible rfl)
            )
            all_goals (
              refine ⟨A.length - (i + 1), by omega, i + 1, rfl, by omega, by rw [allTo_succ, ha, hqt]; rfl, ?_⟩
              (rw [clr_eq]; rotate_left; rfl; simp only [keepB, go_sem, Nat.reduceBEq, Nat.reduceAdd, cond_true, cond_false, *]; simp only [clrG, Nat.reduceBEq, Nat.reduceAdd, cond_true, cond_false])
              first | done | rfl)
          · have hqt : waitQ r A i = false := by
              rw [hq, hk, hH, Int.toNat_natCast, hks]
              have : (s.cursor == r.sent) = false := by simpa [bne] using hC
              simp [this, hil]
            have hf : allTo (waitQ r A) A.length = false := allTo_not hlt hqt
            rw [hf]
            clear hq
            repeat' (first
            | with_reducible first | refine aw_seq ?_ | refine aw_block ?_ | refine aw_skip ?_ | refine aw_exit ?_
            | with_reducible first | refine aw_ret ?_ | refine thenA_n ?_ | refine thenA_r ?_ | refine thenA_x ?_ | refine blockA_n ?_ | refine blockA_r ?_ | refine blockA_e ?_ | refine blockA_x (by decide) ?_ | refine ends_r ?_ | refine ends_n ?_ | refine ends_rM ?_ | refine ends_nM ?_ | refine aw_reg ?_
            | (with_reducible apply aw_anyS hT (id := 20) [[], [0], [0, 1], [0, 1, 2], [0, 1, 2], [0, 1, 2, 3, 4], [0, 1, 2], [0, 1, 2], [0, 1, 2, 6, 7], [0, 1, 2, 6, 7, 8], [0, 1, 2, 3, 4, 5, 6, 7, 8, 9], [0, 1, 2, 3, 4, 5, 6, 7, 8, 9, 10], [0, 1, 2, 3, 4, 5, 6, 7, 8, 9, 10, 11], [0, 1, 2, 3, 4, 5, 6, 7, 8, 9, 10, 11, 12], [0, 1, 2, 3, 4, 5, 6, 7, 8, 9, 10, 11, 12], [0, 1, 2, 3, 4, 5, 6, 7, 8, 9, 10, 11, 12, 14], [0, 1, 2, 3, 4, 5, 6, 7, 8, 9, 10, 11, 12, 14, 15], [0, 1, 2, 3, 4, 5, 6, 7, 8, 9, 10, 11, 12, 13, 14, 15, 16], [0, 1, 2, 3, 4, 5, 6, 7, 8, 9, 10, 11, 12, 13, 14, 15, 16, 17], [0, 1, 2, 3, 4, 5, 6, 7, 8, 9, 10, 11, 12, 13, 14, 15, 16, 17, 18], [0, 1, 2, 3, 4, 5, 6, 7, 8, 9, 10, 11, 12, 13, 14, 15, 16, 17, 18, 19], [0, 1, 2, 3, 4, 5, 6, 7, 8, 9, 10, 11, 12, 13, 14, 15, 16, 17, 18], [0, 1, 2, 3, 4, 5, 6, 7, 8, 9, 10, 11, 12, 13, 14, 15, 16, 17, 18, 19, 20, 21], [0, 1, 2, 3, 4, 5, 6, 7, 8, 9, 10, 11, 12, 13, 14, 15, 16, 17, 18, 19, 20, 21, 22], [0, 1, 2, 3, 4, 5, 6, 7, 8, 9, 10, 11, 12, 13, 14, 15, 16, 17, 18, 19, 20, 21, 22, 23], [0, 1, 2, 3, 4, 5, 6, 7, 8, 9, 10, 11, 12, 13, 14, 15, 16, 17, 18], [0, 1, 2, 3, 4, 5, 6, 7, 8, 9, 10, 11, 12, 13, 14, 15, 16, 17, 18, 25], [0, 1, 2, 3, 4, 5, 6, 7, 8, 9, 10, 11, 12, 13, 14, 15, 16, 17, 18, 19, 20, 21, 22, 23, 24, 25, 26], [0, 1, 2, 3, 4, 5, 6, 7, 8, 9, 10, 11, 12, 13, 14, 15, 16, 17, 18, 19, 20, 21, 22, 23, 24, 25, 26, 27], [0, 1, 2, 3, 4, 5, 6, 7, 8, 9, 10, 11, 12, 13, 14, 15, 16, 17, 18, 19, 20, 21, 22, 23, 24, 25, 26, 27, 28]] [132, 133, 134, 135, 136, 137, 138, 139, 140, 141, 142, 143, 144, 145, 146, 147, 148, 149, 150, 151, 152, 153, 154, 155, 156, 157, 158, 159, 160, 161]
               · rfl
               · decide +kernel
               · decide +kernel
               · simp only [go_sem, *])
            | (with_reducible apply aw_anyT hT (id := 19) [[], [], [], [1, 2], [1, 2, 3], [0, 1, 2, 3, 4], [0, 1, 2, 3, 4, 5]] 5 [126, 127, 128, 129, 130]
               · simp only [List.take_succ_cons, List.take_zero]; with_reducible rfl
               · simp only [List.drop_succ_cons, List.drop_zero]; with_reducible rfl
               · rfl
               · decide +kernel
               · decide +kernel
               · decide +kernel
               · simp only [go_sem, *])
            | with_reducible refine al_nil ?_
            | (with_reducible apply aw_cond
               · simp only [go_sem, *]; with_reducible rfl
               all_goals (intro h; try simp only [Bool.not_eq_true', Bool.not_eq_false', reduceCtorEq] at h))
            | (with_reducible apply al_call (f := 65)
               · first | exact gchk_none rfl | simp only [go_sem, *]
               · rfl
               · exact Go.Proofs.Try.call65
               · simp only [go_sem, encRing, encInt, encSub, *]; with_reducible rfl
               · simp only [go_sem, *]
               · first | assumption | ((with_reducible apply c_spec_l9At) <;> first | assumption | rfl | exact Kept.out (by assumption))
               · simp only [go_sem]; with_reducible rfl)
            | with_reducible refine ad_nil ?_
            | (with_reducible apply ad_q hT
               · first | exact gchk_none rfl | simp only [go_sem, *]
               · simp only [go_sem, encRing, encInt, encSub, *]; first | done | with_reducible rfl
               · simp only [go_sem, *]
               · simp only [go_sem]; with_reducible rfl)
            | (with_reducible apply ad_snap (f := 66)
               · first | exact gchk_none rfl | simp only [go_sem, *]
               · rfl
               · exact Go.Proofs.Try.call66
               · simp only [go_sem, encRing, encInt, encSub, *]; with_reducible rfl
               · simp only [go_sem, encRing, encInt, encSub, *]; with_reducible rfl
               · first | assumption | ((with_reducible apply c_spec_l2Has) <;> first | assumption | rfl | exact Kept.out (by assumption))
               · simp only [go_sem, *]
               · simp only [go_sem, *]
               · simp only [go_sem]; with_reducible rfl)
            | (with_reducible apply al_s hT false
               · first | exact gchk_none rfl | simp only [go_sem, *]
               · simp only [go_sem, encRing, encInt, encSub, *]; first | done | with_reducible rfl)
            )
            all_goals ((simp only [go_sem, *]); first | done | rfl)
        · have g3 : decide ((i : Int) < (r.line.length : Int)) = false := by simp; omega
          have hqt : waitQ r A i = true := by
            rw [hq, hk, hH, decide_eq_false hil]
            simp
          clear hq
          repeat' (first
          | with_reducible first | refine aw_seq ?_ | refine aw_block ?_ | refine aw_skip ?_ | refine aw_exit ?_
          | with_reducible first | refine aw_ret ?_ | refine thenA_n ?_ | refine thenA_r ?_ | refine thenA_x ?_ | refine blockA_n ?_ | refine blockA_r ?_ | refine blockA_e ?_ | refine blockA_x (by decide) ?_ | refine ends_r ?_ | refine ends_n ?_ | refine ends_rM ?_ | refine ends_nM ?_ | refine aw_reg ?_
          | (with_reducible apply aw_anyS hT (id := 20) [[], [0], [0, 1], [0, 1, 2], [0, 1, 2], [0, 1, 2, 3, 4], [0, 1, 2], [0, 1, 2], [0, 1, 2, 6, 7], [0, 1, 2, 6, 7, 8], [0, 1, 2, 3, 4, 5, 6, 7, 8, 9], [0, 1, 2, 3, 4, 5, 6, 7, 8, 9, 10], [0, 1, 2, 3, 4, 5, 6, 7, 8, 9, 10, 11], [0, 1, 2, 3, 4, 5, 6, 7, 8, 9, 10, 11, 12], [0, 1, 2, 3, 4, 5, 6, 7, 8, 9, 10, 11, 12], [0, 1, 2, 3, 4, 5, 6, 7, 8, 9, 10, 11, 12, 14], [0, 1, 2, 3, 4, 5, 6, 7, 8, 9, 10, 11, 12, 14, 15], [0, 1, 2, 3, 4, 5, 6, 7, 8, 9, 10, 11, 12, 13, 14, 15, 16], [0, 1, 2, 3, 4, 5, 6, 7, 8, 9, 10, 11, 12, 13, 14, 15, 16, 17], [0, 1, 2, 3, 4, 5, 6, 7, 8, 9, 10, 11, 12, 13, 14, 15, 16, 17, 18], [0, 1, 2, 3, 4, 5, 6, 7, 8, 9, 10, 11, 12, 13, 14, 15, 16, 17, 18, 19], [0, 1, 2, 3, 4, 5, 6, 7, 8, 9, 10, 11, 12, 13, 14, 15, 16, 17, 18], [0, 1, 2, 3, 4, 5, 6, 7, 8, 9, 10, 11, 12, 13, 14, 15, 16, 17, 18, 19, 20, 21], [0, 1, 2, 3, 4, 5, 6, 7, 8, 9, 10, 11, 12, 13, 14, 15, 16, 17, 18, 19, 20, 21, 22], [0, 1, 2, 3, 4, 5, 6, 7, 8, 9, 10, 11, 12, 13, 14, 15, 16, 17, 18, 19, 20, 21, 22, 23], [0, 1, 2, 3, 4, 5, 6, 7, 8, 9, 10, 11, 12, 13, 14, 15, 16, 17, 18], [0, 1, 2, 3, 4, 5, 6, 7, 8, 9, 10, 11, 12, 13, 14, 15, 16, 17, 18, 25], [0, 1, 2, 3, 4, 5, 6, 7, 8, 9, 10, 11, 12, 13, 14, 15, 16, 17, 18, 19, 20, 21, 22, 23, 24, 25, 26], [0, 1, 2, 3, 4, 5, 6, 7, 8, 9, 10, 11, 12, 13, 14, 15, 16, 17, 18, 19, 20, 21, 22, 23, 24, 25, 26, 27], [0, 1, 2, 3, 4, 5, 6, 7, 8, 9, 10, 11, 12, 13, 14, 15, 16, 17, 18, 19, 20, 21, 22, 23, 24, 25, 26, 27, 28]] [132, 133, 134, 135, 136, 137, 138, 139, 140, 141, 142, 143, 144, 145, 146, 147, 148, 149, 150, 151, 152, 153, 154, 155, 156, 157, 158, 159, 160, 161]
             · rfl
             · decide +kernel
             · decide +kernel
             · simp only [go_sem, *])
          | (with_reducible apply aw_anyT hT (id := 19) [[], [], [], [1, 2], [1, 2, 3], [0, 1, 2, 3, 4], [0, 1, 2, 3, 4, 5]] 5 [126, 127, 128, 129, 130]
             · simp only [List.take_succ_cons, List.take_zero]; with_reducible rfl
             · simp only [List.drop_succ_cons, List.drop_zero]; with_reducible rfl
             · rfl
             · decide +kernel
             · decide +kernel
             · decide +kernel
             · simp only [go_sem, *])
          | with_reducible refine al_nil ?_
          | (with_reducible apply aw_cond
             · simp only [go_sem, *]; with_reducible rfl
             all_goals (intro h; try simp only [Bool.not_eq_true', Bool.not_eq_false', reduceCtorEq] at h))
          | (with_reducible apply al_call (f := 65)
             · first | exact gchk_none rfl | simp only [go_sem, *]
             · rfl
             · exact Go.Proofs.Try.call65
             · simp only [go_sem, encRing, encInt, encSub, *]; with_reducible rfl
             · simp only [go_sem, *]
             · first | assumption | ((with_reducible apply c_spec_l9At) <;> first | assumption | rfl | exact Kept.out (by assumption))
             · simp only [go_sem]; with_reducible rfl)
          | with_reducible refine ad_nil ?_
          | (with_reducible apply ad_q hT
             · first | exact gchk_none rfl | simp only [go_sem, *]
             · simp only [go_sem, encRing, encInt, encSub, *]; first | done | with_reducible rfl
             · simp only [go_sem, *]
             · simp only [go_sem]; with_reducible rfl)
          | (with_reducible apply ad_skip
             · simp only [go_sem, *]
             · simp only [go_sem]; with_reducible rfl)
          | (with_reducible apply ad_snap (f := 66)
             · first | exact gchk_none rfl | simp only [go_sem, *]
             · rfl
             · exact Go.Proofs.Try.call66
             · simp only [go_sem, encRing, encInt, encSub, *]; with_reducible rfl
             · simp only [go_sem, encRing, encInt, encSub, *]; with_reducible rfl
             · first | assumption | ((with_reducible apply c_spec_l2Has) <;> first | assumption | rfl | exact Kept.out (by assumption))
             · simp only [go_sem, *]
             · simp only [go_sem, *]
             · simp only [go_sem]; with_reducible rfl)
          | (with_reducible apply al_s hT false
             · first | exact gchk_none rfl | simp only [go_sem, *]
             · simp only [go_sem, encRing, encInt, encSub, *]; first | done | with_reducible rfl)
          )
          all_goals (
            refine ⟨A.length - (i + 1), by omega, i + 1, rfl, by omega, by rw [allTo_succ, ha, hqt]; rfl, ?_⟩
            (rw [clr_eq]; rotate_left; rfl; simp only [keepB, go_sem, Nat.reduceBEq, Nat.reduceAdd, cond_true, cond_false, *]; simp only [clrG, Nat.reduceBEq, Nat.reduceAdd, cond_true, cond_false])
            first | done | rfl)
      · have hf : allTo (waitQ r A) A.length = false := allTo_not hlt (by rw [hq, hH]; simp)
        rw [hf]
        clear hq
        repeat' (first
        | with_reducible first | refine aw_seq ?_ | refine aw_block ?_ | refine aw_skip ?_ | refine aw_exit ?_
        | with_reducible first | refine aw_ret ?_ | refine thenA_n ?_ | refine thenA_r ?_ | refine thenA_x ?_ | refine blockA_n ?_ | refine blockA_r ?_ | refine blockA_e ?_ | refine blockA_x (by decide) ?_ | refine ends_r ?_ | refine ends_n ?_ | refine ends_rM ?_ | refine ends_nM ?_ | refine aw_reg ?_
        | (with_reducible apply aw_anyS hT (id := 20) [[], [0], [0, 1], [0, 1, 2], [0, 1, 2], [0, 1, 2, 3, 4], [0, 1, 2], [0, 1, 2], [0, 1, 2, 6, 7], [0, 1, 2, 6, 7, 8], [0, 1, 2, 3, 4, 5, 6, 7, 8, 9], [0, 1, 2, 3, 4, 5, 6, 7, 8, 9, 10], [0, 1, 2, 3, 4, 5, 6, 7, 8, 9, 10, 11], [0, 1, 2, 3, 4, 5, 6, 7, 8, 9, 10, 11, 12], [0, 1, 2, 3, 4, 5, 6, 7, 8, 9, 10, 11, 12], [0, 1, 2, 3, 4, 5, 6, 7, 8, 9, 10, 11, 12, 14], [0, 1, 2, 3, 4, 5, 6, 7, 8, 9, 10, 11, 12, 14, 15], [0, 1, 2, 3, 4, 5, 6, 7, 8, 9, 10, 11, 12, 13, 14, 15, 16], [0, 1, 2, 3, 4, 5, 6, 7, 8, 9, 10, 11, 12, 13, 14, 15, 16, 17], [0, 1, 2, 3, 4, 5, 6, 7, 8, 9, 10, 11, 12, 13, 14, 15, 16, 17, 18], [0, 1, 2, 3, 4, 5, 6, 7, 8, 9, 10, 11, 12, 13, 14, 15, 16, 17, 18, 19], [0, 1, 2, 3, 4, 5, 6, 7, 8, 9, 10, 11, 12, 13, 14, 15, 16, 17, 18], [0, 1, 2, 3, 4, 5, 6, 7, 8, 9, 10, 11, 12, 13, 14, 15, 16, 17, 18, 19, 20, 21], [0, 1, 2, 3, 4, 5, 6, 7, 8, 9, 10, 11, 12, 13, 14, 15, 16, 17, 18, 19, 20, 21, 22], [0, 1, 2, 3, 4, 5, 6, 7, 8, 9, 10, 11, 12, 13, 14, 15, 16, 17, 18, 19, 20, 21, 22, 23], [0, 1, 2, 3, 4, 5, 6, 7, 8, 9, 10, 11, 12, 13, 14, 15, 16, 17, 18], [0, 1, 2, 3, 4, 5, 6, 7, 8, 9, 10, 11, 12, 13, 14, 15, 16, 17, 18, 25], [0, 1, 2, 3, 4, 5, 6, 7, 8, 9, 10, 11, 12, 13, 14, 15, 16, 17, 18, 19, 20, 21, 22, 23, 24, 25, 26], [0, 1, 2, 3, 4, 5, 6, 7, 8, 9, 10, 11, 12, 13, 14, 15, 16, 17, 18, 19, 20, 21, 22, 23, 24, 25, 26, 27], [0, 1, 2, 3, 4, 5, 6, 7, 8, 9, 10, 11, 12, 13, 14, 15, 16, 17, 18, 19, 20, 21, 22, 23, 24, 25, 26, 27, 28]] [132, 133, 134, 135, 136, 137, 138, 139, 140, 141, 142, 143, 144, 145, 146, 147, 148, 149, 150, 151, 152, 153, 154, 155, 156, 157, 158, 159, 160, 161]
           · rfl
           · decide +kernel
           · decide +kernel
           · simp only [go_sem, *])
        | (with_reducible apply aw_anyT hT (id := 19) [[], [], [], [1, 2], [1, 2, 3], [0, 1, 2, 3, 4], [0, 1, 2, 3, 4, 5]] 5 [126, 127, 128, 129, 130]
           · simp only [List.take_succ_cons, List.take_zero]; with_reducible rfl
           · simp only [List.drop_succ_cons, List.drop_zero]; with_reducible rfl
           · rfl
           · decide +kernel
           · decide +kernel
           · decide +kernel
           · simp only [go_sem, *])
        | with_reducible refine al_nil ?_
        | (with_reducible apply aw_cond
           · simp only [go_sem, *]; with_reducible rfl
           all_goals (intro h; try simp only [Bool.not_eq_true', Bool.not_eq_false', reduceCtorEq] at h))
        | (with_reducible apply al_call (f := 65)
           · first | exact gchk_none rfl | simp only [go_sem, *]
           · rfl
           · exact Go.Proofs.Try.call65
           · simp only [go_sem, encRing, encInt, *]; with_reducible rfl
           · simp only [go_sem, *]
           · first | assumption | ((with_reducible apply c_spec_l9At) <;> first | assumption | rfl | exact Kept.out (by assumption))
           · simp only [go_sem]; with_reducible rfl)
        | with_reducible refine ad_nil ?_
        | (with_reducible apply ad_q hT
           · first | exact gchk_none rfl | simp only [go_sem, *]
           · simp only [go_sem, encRing, encInt, *]; first | done | with_reducible rfl
           · simp only [go_sem, *]
           · simp only [go_sem]; with_reducible rfl)
        | (with_reducible apply ad_skip
           · simp only [go_sem, *]
           · simp only [go_sem]; with_reducible rfl)
        | (with_reducible apply ad_snap (f := 66)
           · first | exact gchk_none rfl | simp only [go_sem, *]
           · rfl
           · exact Go.Proofs.Try.call66
           · simp only [go_sem, encRing, encInt, *]; with_reducible rfl
           · simp only [go_sem, encRing, encInt, *]; with_reducible rfl
           · first | assumption | ((with_reducible apply c_spec_l2Has) <;> first | assumption | rfl | exact Kept.out (by assumption))
           · simp only [go_sem, *]
           · simp only [go_sem, *]
           · simp only [go_sem]; with_reducible rfl)
        | (with_reducible apply al_s hT false
           · first | exact gchk_none rfl | simp only [go_sem, *]
           · simp only [go_sem, encRing, encInt, *]; first | done | with_reducible rfl)
        )
        all_goals ((simp only [go_sem, *]); first | done | rfl)
  · have hd : decide ((i : Int) < (A.length : Int)) = false := by simp; omega
    have e : i = A.length := by omega
    have hf : allTo (waitQ r A) A.length = true := by rw [← e]; exact ha
    clear e
    rw [hf]
    repeat' (first
    | with_reducible first | refine aw_seq ?_ | refine aw_block ?_ | refine aw_skip ?_ | refine aw_exit ?_
    | with_reducible first | refine aw_ret ?_ | refine thenA_n ?_ | refine thenA_r ?_ | refine thenA_x ?_ | refine blockA_n ?_ | refine blockA_r ?_ | refine blockA_e ?_ | refine blockA_x (by decide) ?_ | refine ends_r ?_ | refine ends_n ?_ | refine ends_rM ?_ | refine ends_nM ?_ | refine aw_reg ?_
    | with_reducible refine al_nil ?_
    | (with_reducible apply aw_cond
       · simp only [go_sem, *]; with_reducible rfl
       all_goals (intro h; try simp only [Bool.not_eq_true', Bool.not_eq_false', reduceCtorEq] at h))
    | (with_reducible apply al_s hT false
       · first | exact gchk_none rfl | simp only [go_sem, *]
       · simp only [go_sem, encRing, *]; first | done | with_reducible rfl)
    )
    all_goals ((simp only [go_sem, *]); first | done | rfl)
end Go.Proofs.Ytcgkejggkenecaa
