/- Contracts of the slices package at lists of int. Contracts: slices.Concat of lists of numbers. -/
import Derived.Test.YtlgdijjkegeccaaGreatKG
namespace Go.Proofs.YtlgdijjkegeccaaGreat
open Go Go.RowKit Go.Bv
set_option linter.unusedSimpArgs false
set_option linter.unusedVariables false
set_option maxRecDepth 4000
set_option maxHeartbeats 1000000
theorem c_slices_IndexFunc_int_int {g : Nat} {us : List AV} (f : List Int) (p : Int → Bool) (hp : ∀ x ∈ f, Sound P g (encInt x :: us) (.bool (p x))) (hg : ∀ vs w, (callFunc g vs).run P w = .ok (.enter g vs) w) (hus : ipsA us = true) (hl : f.length < 4611686018427387904) :
    Sound P 79 [.lst false 1 (f.map encInt), .fn g us] (.int .i64 (idxP p f)) := by
  have hsn := asnaps_ips hus
  have hna := noAgg_ips hus
  have hpu := ips_pl hus
  have hmu := fun d => plAs_men d us hpu
  have hhu := fun r q => plAs_hit r q us hpu
  have hdu := fun r => plAs_deep r us hpu
  have hvu : ∀ t q i, aviews t q i us = us := ips_view hus
  refine snd_b hT Tryz.func79 Tryz.results79 Tryz.ntmps79 ?_
  repeat' (first
  | with_reducible first | refine aw_seq ?_ | refine aw_block ?_ | refine aw_skip ?_ | refine aw_exit ?_
  | with_reducible first | refine aw_ret ?_ | refine thenA_n ?_ | refine thenA_r ?_ | refine thenA_x ?_ | refine blockA_n ?_ | refine blockA_r ?_ | refine blockA_e ?_ | refine blockA_x (by decide) ?_ | refine ends_r ?_ | refine ends_n ?_ | refine ends_rM ?_ | refine ends_nM ?_ | refine aw_reg ?_
  | with_reducible refine al_nil ?_
  | (with_reducible apply al_s hT true
     · first | exact gchk_none rfl | simp only [go_sem, *]
     · simp only [go_sem, hmu, hhu, *]; first | done | with_reducible rfl)
  )
  refine aw_loop [2, 3, 5, 9, 10, 11, 12, 13, 14, 15, 16, 17, 18] (fun n S => ∃ i : Nat, n = f.length - i ∧ i ≤ f.length ∧ AheadP p f i ∧ S = [.lst false 1 (f.map encInt), .fn g us, .undef, .undef, .int .i64 0, .undef, .lst false 1 (f.map encInt), .int .i64 f.length, .int .i64 i, .undef, .undef, .undef, .undef, .undef, .undef, .undef, .undef, .undef, .undef]) f.length ?_ ?_
  · refine ⟨0, by simp, by omega, .zero, ?_⟩
    simp only [clr, go_sem, hmu, hhu]
    first | done | rfl
  · rintro n S ⟨i, hn, hi, ha, rfl⟩
    have hwi : IntKind.i64.wrap ((i : Int) + 1) = ((i + 1 : Nat) : Int) := by rw [wrap_small] <;> omega
    by_cases hlt : i < f.length
    · have hd : decide ((i : Int) < (f.length : Int)) = true := by simp [hlt]
      obtain ⟨y, hy⟩ : ∃ y, f[i]? = some y := ⟨f[i], by simp [hlt]⟩
      have hpy := hp y (List.mem_of_getElem? hy)
      simp only [encInt] at hpy
      clear hp
      repeat' (first
      | with_reducible first | refine aw_seq ?_ | refine aw_block ?_ | refine aw_skip ?_ | refine aw_exit ?_
      | with_reducible first | refine aw_ret ?_ | refine thenA_n ?_ | refine thenA_r ?_ | refine thenA_x ?_ | refine blockA_n ?_ | refine blockA_r ?_ | refine blockA_e ?_ | refine blockA_x (by decide) ?_ | refine ends_r ?_ | refine ends_n ?_ | refine ends_rM ?_ | refine ends_nM ?_ | refine aw_reg ?_
      | with_reducible refine al_nil ?_
      | (with_reducible apply aw_cond
         · simp only [go_sem, *]; with_reducible rfl
         all_goals (intro h; try simp only [Bool.not_eq_true', Bool.not_eq_false', reduceCtorEq] at h))
      | (with_reducible apply al_callv
         · exact gchk_none rfl
         · rfl
         · simp only [go_sem, encInt, hmu, hhu, *]; with_reducible rfl
         · assumption
         · assumption
         · simp only [go_sem, encInt, hmu, hhu, *]; with_reducible rfl
         · simp only [go_sem, encInt, hmu, hhu, *]; with_reducible rfl
         · assumption
         · simp only [go_sem]
         · simp only [go_sem, hmu, hhu]; with_reducible rfl)
      | (with_reducible apply al_s hT true
         · first | exact gchk_none rfl | simp only [go_sem, *]
         · simp only [go_sem, encInt, hmu, hhu, *]; first | done | with_reducible rfl)
      )
      · (simp only [go_sem, *])
        rw [idxP_some hy h ha]
      · refine ⟨f.length - (i + 1), by omega, i + 1, rfl, by omega, ha.succ hy h, ?_⟩
        simp only [clr, go_sem, hmu, hhu]
    · have hd : decide ((i : Int) < (f.length : Int)) = false := by simp; omega
      clear hp
      repeat' (first
      | with_reducible first | refine aw_seq ?_ | refine aw_block ?_ | refine aw_skip ?_ | refine aw_exit ?_
      | with_reducible first | refine aw_ret ?_ | refine thenA_n ?_ | refine thenA_r ?_ | refine thenA_x ?_ | refine blockA_n ?_ | refine blockA_r ?_ | refine blockA_e ?_ | refine blockA_x (by decide) ?_ | refine ends_r ?_ | refine ends_n ?_ | refine ends_rM ?_ | refine ends_nM ?_ | refine aw_reg ?_
      | with_reducible refine al_nil ?_
      | (with_reducible apply aw_cond
         · simp only [go_sem, *]; with_reducible rfl
         all_goals (intro h; try simp only [Bool.not_eq_true', Bool.not_eq_false', reduceCtorEq] at h))
      | (with_reducible apply al_s hT true
         · first | exact gchk_none rfl | simp only [go_sem, *]
         · simp only [go_sem, hmu, hhu, *]; first | done | with_reducible rfl)
      )
      (simp only [go_sem, *])
      rw [idxP_none (i := i) (by omega) ha]
noncomputable abbrev ic_slices_IndexFunc_int_int := Con.mk (P := P) (f := 79) Tryz.call79 @c_slices_IndexFunc_int_int
attribute [instance] ic_slices_IndexFunc_int_int
theorem take_set_succ {M : List Int} {i : Nat} {x : Int} (hi : i < M.length) : (M.set i x).take (i + 1) = M.take i ++ [x] := by
  rw [List.take_add_one, List.getElem?_set_self (by simpa using hi), List.take_set_of_le (Nat.le_refl i)]; first | done | rfl
-- MOVE c_slices_DeleteFunc_int_int
theorem c_slices_DeleteFunc_int_int {g : Nat} {us : List AV} (f : List Int) (p : Int → Bool) (hp : ∀ x ∈ f, Sound P g (encInt x :: us) (.bool (p x))) (hg : ∀ vs w, (callFunc g vs).run P w = .ok (.enter g vs) w) (hus : ipsA us = true) (hl : f.length < 4611686018427387904) :
    Sound P 63 [.lst true 1 (f.map encInt), .fn g us] (.lst true 1 ((f.filter fun x => !p x).map encInt)) := by
  have hsn := asnaps_ips hus
  have hna := noAgg_ips hus
  have hpu := ips_pl hus
  have hmu := fun d => plAs_men d us hpu
  have hhu := fun r q => plAs_hit r q us hpu
  have hdu := fun r => plAs_deep r us hpu
  have hvu : ∀ t q i, aviews t q i us = us := ips_view hus
  have hc := c_slices_IndexFunc_int_int f p hp hg hus hl
  have hca := idxP_cases p f
  obtain ⟨q, hq⟩ : ∃ q, idxP p f = q := ⟨_, rfl⟩
  rw [hq] at hc hca
  rcases hca with ⟨rfl, hany⟩ | ⟨i, x, rfl, hi, hx, hpx, hah⟩
  · have hall : (f.filter fun x => !p x) = f := List.filter_eq_self.2 fun x hx => by rw [List.any_eq_false] at hany; simpa using hany x hx
    rw [hall]
    clear hp hall hany
    refine snd_b hT Tryz.func63 Tryz.results63 Tryz.ntmps63 ?_
    repeat' (first
    | with_reducible first | refine aw_seq ?_ | refine aw_block ?_ | refine aw_skip ?_ | refine aw_exit ?_
    | with_reducible first | refine aw_ret ?_ | refine thenA_n ?_ | refine thenA_r ?_ | refine thenA_x ?_ | refine blockA_n ?_ | refine blockA_r ?_ | refine blockA_e ?_ | refine blockA_x (by decide) ?_ | refine ends_r ?_ | refine ends_n ?_ | refine ends_rM ?_ | refine ends_nM ?_ | refine aw_reg ?_
    | (with_reducible refine aw_any hT ?_ ?_; · decide +kernel)
    | with_reducible refine al_nil ?_
    | (with_reducible apply aw_cond
       · simp only [go_sem, *]; with_reducible rfl
       all_goals (intro h; try simp only [Bool.not_eq_true', Bool.not_eq_false', reduceCtorEq] at h))
    | (with_reducible apply al_call (f := 79)
       · first | exact gchk_none rfl | simp only [go_sem, *]
       · rfl
       · exact Tryz.call79
       · simp only [go_sem, hmu, hhu, *]; with_reducible rfl
       · simp only [go_sem, *]
       · first | assumption | ((with_reducible apply c_slices_IndexFunc_int_int) <;> first | assumption | rfl)
       · simp only [go_sem, hmu, hhu]; with_reducible rfl)
    | (with_reducible apply al_snap (f := 79)
       · first | exact gchk_none rfl | simp only [go_sem, *]
       · rfl
       · exact Tryz.call79
       · simp only [go_sem, hmu, hhu, *]; with_reducible rfl
       · simp only [go_sem, hmu, hhu, *]; with_reducible rfl
       · first | assumption | ((with_reducible apply c_slices_IndexFunc_int_int) <;> first | assumption | rfl)
       · simp only [go_sem, *]
       · simp only [go_sem, hmu, hhu]; with_reducible rfl)
    | (with_reducible apply al_callv
       · exact gchk_none rfl
       · rfl
       · simp only [go_sem, hmu, hhu, *]; with_reducible rfl
       · assumption
       · assumption
       · simp only [go_sem, hmu, hhu, *]; with_reducible rfl
       · simp only [go_sem, hmu, hhu, *]; with_reducible rfl
       · assumption
       · simp only [go_sem]
       · simp only [go_sem, hmu, hhu]; with_reducible rfl)
    | (with_reducible apply al_clear hT
       · exact gchk_none rfl
       · rfl
       · rfl
       · simp only [go_sem]; first | done | with_reducible rfl
       · simp only [go_sem]; first | done | with_reducible rfl
       · simp only [go_sem, hmu, hhu, *]; with_reducible rfl
       · simp only [go_sem, hmu, hhu, *]; with_reducible rfl
       · simp only [go_sem]
       · simp only [go_sem, *]
       · simp only [go_sem, hmu, hhu]; with_reducible rfl)
    | (with_reducible apply al_anil hT
       · exact gchk_none rfl
       · rfl
       · simp only [go_sem]; first | done | with_reducible rfl
       · simp only [go_sem, hmu, hhu]; with_reducible rfl)
    | (with_reducible apply al_s hT true
       · first | exact gchk_none rfl | simp only [go_sem, *]
       · simp only [go_sem, hmu, hhu, *]; first | done | with_reducible rfl)
    | (with_reducible apply al_q hT
       · first | exact gchk_none rfl | simp only [go_sem, *]
       · simp only [go_sem, hmu, hhu, *]; first | done | with_reducible rfl
       · simp only [go_sem, hmu, hhu]; with_reducible rfl)
    | (with_reducible apply al_skip
       · simp only [go_sem, *]
       · simp only [go_sem, hmu, hhu]; with_reducible rfl)
    | ((with_reducible first | apply al_caseT rfl | apply al_caseF rfl)
       · simp only [go_sem, *]; with_reducible rfl
       · simp only [go_sem, hmu, hhu]; with_reducible rfl
       all_goals (intro h; try simp only [Bool.not_eq_true', Bool.not_eq_false'] at h)
       fail_if_success (with_reducible have hh : (true = true ∨ false = false) := by first | exact Or.inl h | exact Or.inr h))
    )
    all_goals (simp only [go_sem, *])
  · have hne : ((i : Int) == -1) = false := by rw [beq_eq_false_iff_ne]; omega
    have hwi : IntKind.i64.wrap ((i : Int) + 1) = ((i + 1 : Nat) : Int) := by rw [wrap_small] <;> omega
    have hf0 : (f.take (i + 1)).filter (fun x => !p x) = f.take i := by
      rw [List.take_add_one, hx, List.filter_append]
      have : (f.take i).filter (fun x => !p x) = f.take i := List.filter_eq_self.2 fun y hy => by
        obtain ⟨j, hj, rfl⟩ := List.getElem_of_mem hy
        have hj' : j < i := by simp at hj; omega
        have := hah j _ hj' (by rw [List.getElem?_eq_getElem (by omega)])
        simpa using this
      rw [this]
      simp [hpx]
    refine snd_b hT Tryz.func63 Tryz.results63 Tryz.ntmps63 ?_
    clear hah
    repeat' (first
    | with_reducible first | refine aw_seq ?_ | refine aw_block ?_ | refine aw_skip ?_ | refine aw_exit ?_
    | with_reducible first | refine aw_ret ?_ | refine thenA_n ?_ | refine thenA_r ?_ | refine thenA_x ?_ | refine blockA_n ?_ | refine blockA_r ?_ | refine blockA_e ?_ | refine blockA_x (by decide) ?_ | refine ends_r ?_ | refine ends_n ?_ | refine ends_rM ?_ | refine ends_nM ?_ | refine aw_reg ?_
    | (with_reducible refine aw_any hT ?_ ?_; · decide +kernel)
    | with_reducible refine al_nil ?_
    | (with_reducible apply aw_cond
       · simp only [go_sem, *]; with_reducible rfl
       all_goals (intro h; try simp only [Bool.not_eq_true', Bool.not_eq_false', reduceCtorEq] at h))
    | (with_reducible apply al_call (f := 79)
       · first | exact gchk_none rfl | simp only [go_sem, *]
       · rfl
       · exact Tryz.call79
       · simp only [go_sem, hmu, hhu, *]; with_reducible rfl
       · simp only [go_sem, *]
       · first | assumption | ((with_reducible apply c_slices_IndexFunc_int_int) <;> first | assumption | rfl)
       · simp only [go_sem, hmu, hhu]; with_reducible rfl)
    | (with_reducible apply al_snap (f := 79)
       · first | exact gchk_none rfl | simp only [go_sem, *]
       · rfl
       · exact Tryz.call79
       · simp only [go_sem, hmu, hhu, *]; with_reducible rfl
       · simp only [go_sem, hmu, hhu, *]; with_reducible rfl
       · first | assumption | ((with_reducible apply c_slices_IndexFunc_int_int) <;> first | assumption | rfl)
       · simp only [go_sem, *]
       · simp only [go_sem, hmu, hhu]; with_reducible rfl)
    | (with_reducible apply al_callv
       · exact gchk_none rfl
       · rfl
       · simp only [go_sem, hmu, hhu, *]; with_reducible rfl
       · assumption
       · assumption
       · simp only [go_sem, hmu, hhu, *]; with_reducible rfl
       · simp only [go_sem, hmu, hhu, *]; with_reducible rfl
       · assumption
       · simp only [go_sem]
       · simp only [go_sem, hmu, hhu]; with_reducible rfl)
    | (with_reducible apply al_clear hT
       · exact gchk_none rfl
       · rfl
       · rfl
       · simp only [go_sem]; first | done | with_reducible rfl
       · simp only [go_sem]; first | done | with_reducible rfl
       · simp only [go_sem, hmu, hhu, *]; with_reducible rfl
       · simp only [go_sem, hmu, hhu, *]; with_reducible rfl
       · simp only [go_sem]
       · simp only [go_sem, *]
       · simp only [go_sem, hmu, hhu]; with_reducible rfl)
    | (with_reducible apply al_anil hT
       · exact gchk_none rfl
       · rfl
       · simp only [go_sem]; first | done | with_reducible rfl
       · simp only [go_sem, hmu, hhu]; with_reducible rfl)
    | (with_reducible apply al_s hT true
       · first | exact gchk_none rfl | simp only [go_sem, *]
       · simp only [go_sem, hmu, hhu, *]; first | done | with_reducible rfl)
    | (with_reducible apply al_q hT
       · first | exact gchk_none rfl | simp only [go_sem, *]
       · simp only [go_sem, hmu, hhu, *]; first | done | with_reducible rfl
       · simp only [go_sem, hmu, hhu]; with_reducible rfl)
    | (with_reducible apply al_skip
       · simp only [go_sem, *]
       · simp only [go_sem, hmu, hhu]; with_reducible rfl)
    | ((with_reducible first | apply al_caseT rfl | apply al_caseF rfl)
       · simp only [go_sem, *]; with_reducible rfl
       · simp only [go_sem, hmu, hhu]; with_reducible rfl
       all_goals (intro h; try simp only [Bool.not_eq_true', Bool.not_eq_false'] at h)
       fail_if_success (with_reducible have hh : (true = true ∨ false = false) := by first | exact Or.inl h | exact Or.inr h))
    )
    refine aw_loop [2, 3, 7, 8, 9, 10, 11, 12, 13, 14, 15, 16, 17, 18, 19, 20, 21, 22, 23, 24, 25, 26, 27, 28, 29, 30, 31, 32, 33, 34, 35, 36, 37, 38, 39, 40, 41] (fun n S => ∃ (i j : Nat) (M : List Int), n = f.length - j ∧ j ≤ f.length ∧ i < j ∧ M.length = f.length ∧ M.take i = (f.take j).filter (fun x => !p x) ∧ M.drop j = f.drop j ∧ S = [.lst true 1 (M.map encInt), .fn g us, .undef, .undef, .lst true 1 [], .int .i64 i, .int .i64 j, .undef, .undef, .undef, .undef, .undef, .undef, .undef, .undef, .undef, .undef, .undef, .undef, .undef, .undef, .undef, .undef, .undef, .undef, .undef, .undef, .undef, .undef, .undef, .undef, .undef, .undef, .undef, .undef, .undef, .undef, .undef, .undef, .undef, .undef, .undef]) (f.length - (i + 1)) ?_ ?_
    · refine ⟨i, i + 1, f, rfl, by omega, by omega, rfl, hf0.symm, rfl, ?_⟩
      simp only [clr, go_sem, hwi, hmu, hhu]
    · clear hc hwi hne hf0 hx hpx hi
      rintro n S ⟨i, j, M, hn, hj, hij, hM, ht, hd, rfl⟩
      have hwi : IntKind.i64.wrap ((i : Int) + 1) = ((i + 1 : Nat) : Int) := by rw [wrap_small] <;> omega
      have hwj : IntKind.i64.wrap ((j : Int) + 1) = ((j + 1 : Nat) : Int) := by rw [wrap_small] <;> omega
      by_cases hlt : j < f.length
      · have hd1 : (j : Int) < (f.length : Int) := by omega
        obtain ⟨y, hy⟩ : ∃ y, f[j]? = some y := ⟨f[j], by simp [hlt]⟩
        have hMy : M[j]? = some y := by
          have e1 : (M.drop j)[0]? = (f.drop j)[0]? := by rw [hd]
          simpa [List.getElem?_drop, hy] using e1
        obtain ⟨z, hMi⟩ : ∃ z, M[i]? = some z := ⟨M[i]'(by omega), List.getElem?_eq_getElem (by omega)⟩
        have hset : (M.map encInt).set i (.int .i64 y) = (M.set i y).map encInt := by rw [List.map_set]; rfl
        have hMa : (M.map encInt)[i]? = some (.int .i64 z) := by rw [List.getElem?_map, hMi]; rfl
        have hMb : (M.map encInt)[j]? = some (.int .i64 y) := by rw [List.getElem?_map, hMy]; rfl
        have hML : (M.map encInt).length = f.length := by rw [List.length_map, hM]
        have hdr : M.drop (j + 1) = f.drop (j + 1) := by
          have e1 : (M.drop j).drop 1 = (f.drop j).drop 1 := by rw [hd]
          simpa [List.drop_drop] using e1
        have hpy := hp y (List.mem_of_getElem? hy)
        simp only [encInt] at hpy
        have hil : (i : Int) < (f.length : Int) := by omega
        have hff : (f.take (j + 1)).filter (fun x => !p x) = M.take i ++ (if p y then [] else [y]) := by
          rw [List.take_add_one, hy, List.filter_append, ht]
          cases hpy' : p y <;> simp [hpy']
        clear hp hd ht
        cases hpp : p y with
        | true =>
          rw [hpp] at hpy hff
          repeat' (first
          | with_reducible first | refine aw_seq ?_ | refine aw_block ?_ | refine aw_skip ?_ | refine aw_exit ?_
          | with_reducible first | refine aw_ret ?_ | refine thenA_n ?_ | refine thenA_r ?_ | refine thenA_x ?_ | refine blockA_n ?_ | refine blockA_r ?_ | refine blockA_e ?_ | refine blockA_x (by decide) ?_ | refine ends_r ?_ | refine ends_n ?_ | refine ends_rM ?_ | refine ends_nM ?_ | refine aw_reg ?_
          | (with_reducible refine aw_any hT ?_ ?_; · decide +kernel)
          | with_reducible refine al_nil ?_
          | (with_reducible apply aw_cond
             · simp only [go_sem, *]; with_reducible rfl
             all_goals (intro h; try simp only [Bool.not_eq_true', Bool.not_eq_false', reduceCtorEq] at h))
          | (with_reducible apply al_call (f := 79)
             · first | exact gchk_none rfl | simp only [go_sem, *]
             · rfl
             · exact Tryz.call79
             · simp only [go_sem, hmu, hhu, *]; with_reducible rfl
             · simp only [go_sem, *]
             · first | assumption | ((with_reducible apply c_slices_IndexFunc_int_int) <;> first | assumption | rfl)
             · simp only [go_sem, hmu, hhu]; with_reducible rfl)
          | (with_reducible apply al_snap (f := 79)
             · first | exact gchk_none rfl | simp only [go_sem, *]
             · rfl
             · exact Tryz.call79
             · simp only [go_sem, hmu, hhu, *]; with_reducible rfl
             · simp only [go_sem, hmu, hhu, *]; with_reducible rfl
             · first | assumption | ((with_reducible apply c_slices_IndexFunc_int_int) <;> first | assumption | rfl)
             · simp only [go_sem, *]
             · simp only [go_sem, hmu, hhu]; with_reducible rfl)
          | (with_reducible apply al_callv
             · exact gchk_none rfl
             · rfl
             · simp only [go_sem, hmu, hhu, *]; with_reducible rfl
             · assumption
             · assumption
             · simp only [go_sem, hmu, hhu, *]; with_reducible rfl
             · simp only [go_sem, hmu, hhu, *]; with_reducible rfl
             · assumption
             · simp only [go_sem]
             · simp only [go_sem, hmu, hhu]; with_reducible rfl)
          | (with_reducible apply al_clear hT
             · exact gchk_none rfl
             · rfl
             · rfl
             · simp only [go_sem]; first | done | with_reducible rfl
             · simp only [go_sem]; first | done | with_reducible rfl
             · simp only [go_sem, hmu, hhu, *]; with_reducible rfl
             · simp only [go_sem, hmu, hhu, *]; with_reducible rfl
             · simp only [go_sem]
             · simp only [go_sem, *]
             · simp only [go_sem, hmu, hhu]; with_reducible rfl)
          | (with_reducible apply al_anil hT
             · exact gchk_none rfl
             · rfl
             · simp only [go_sem]; first | done | with_reducible rfl
             · simp only [go_sem, hmu, hhu]; with_reducible rfl)
          | (with_reducible apply al_s hT true
             · first | exact gchk_none rfl | simp only [go_sem, *]
             · simp only [go_sem, hmu, hhu, *]; first | done | with_reducible rfl)
          | (with_reducible apply al_q hT
             · first | exact gchk_none rfl | simp only [go_sem, *]
             · simp only [go_sem, hmu, hhu, *]; first | done | with_reducible rfl
             · simp only [go_sem, hmu, hhu]; with_reducible rfl)
          | (with_reducible apply al_skip
             · simp only [go_sem, *]
             · simp only [go_sem, hmu, hhu]; with_reducible rfl)
          | ((with_reducible first | apply al_caseT rfl | apply al_caseF rfl)
             · simp only [go_sem, *]; with_reducible rfl
             · simp only [go_sem, hmu, hhu]; with_reducible rfl
             all_goals (intro h; try simp only [Bool.not_eq_true', Bool.not_eq_false'] at h)
             fail_if_success (with_reducible have hh : (true = true ∨ false = false) := by first | exact Or.inl h | exact Or.inr h))
          )
          refine ⟨f.length - (j + 1), by omega, i, j + 1, M, rfl, by omega, by omega, hM, by rw [hff]; simp, hdr, ?_⟩
          simp only [clr, go_sem, *]
        | false =>
          rw [hpp] at hpy hff
          repeat' (first
          | with_reducible first | refine aw_seq ?_ | refine aw_block ?_ | refine aw_skip ?_ | refine aw_exit ?_
          | with_reducible first | refine aw_ret ?_ | refine thenA_n ?_ | refine thenA_r ?_ | refine thenA_x ?_ | refine blockA_n ?_ | refine blockA_r ?_ | refine blockA_e ?_ | refine blockA_x (by decide) ?_ | refine ends_r ?_ | refine ends_n ?_ | refine ends_rM ?_ | refine ends_nM ?_ | refine aw_reg ?_
          | (with_reducible refine aw_any hT ?_ ?_; · decide +kernel)
          | with_reducible refine al_nil ?_
          | (with_reducible apply aw_cond
             · simp only [go_sem, *]; with_reducible rfl
             all_goals (intro h; try simp only [Bool.not_eq_true', Bool.not_eq_false', reduceCtorEq] at h))
          | (with_reducible apply al_call (f := 79)
             · first | exact gchk_none rfl | simp only [go_sem, *]
             · rfl
             · exact Tryz.call79
             · simp only [go_sem, hmu, hhu, *]; with_reducible rfl
             · simp only [go_sem, *]
             · first | assumption | ((with_reducible apply c_slices_IndexFunc_int_int) <;> first | assumption | rfl)
             · simp only [go_sem, hmu, hhu]; with_reducible rfl)
          | (with_reducible apply al_snap (f := 79)
             · first | exact gchk_none rfl | simp only [go_sem, *]
             · rfl
             · exact Tryz.call79
             · simp only [go_sem, hmu, hhu, *]; with_reducible rfl
             · simp only [go_sem, hmu, hhu, *]; with_reducible rfl
             · first | assumption | ((with_reducible apply c_slices_IndexFunc_int_int) <;> first | assumption | rfl)
             · simp only [go_sem, *]
             · simp only [go_sem, hmu, hhu]; with_reducible rfl)
          | (with_reducible apply al_callv
             · exact gchk_none rfl
             · rfl
             · simp only [go_sem, hmu, hhu, *]; with_reducible rfl
             · assumption
             · assumption
             · simp only [go_sem, hmu, hhu, *]; with_reducible rfl
             · simp only [go_sem, hmu, hhu, *]; with_reducible rfl
             · assumption
             · simp only [go_sem]
             · simp only [go_sem, hmu, hhu]; with_reducible rfl)
          | (with_reducible apply al_clear hT
             · exact gchk_none rfl
             · rfl
             · rfl
             · simp only [go_sem]; first | done | with_reducible rfl
             · simp only [go_sem]; first | done | with_reducible rfl
             · simp only [go_sem, hmu, hhu, *]; with_reducible rfl
             · simp only [go_sem, hmu, hhu, *]; with_reducible rfl
             · simp only [go_sem]
             · simp only [go_sem, *]
             · simp only [go_sem, hmu, hhu]; with_reducible rfl)
          | (with_reducible apply al_anil hT
             · exact gchk_none rfl
             · rfl
             · simp only [go_sem]; first | done | with_reducible rfl
             · simp only [go_sem, hmu, hhu]; with_reducible rfl)
          | (with_reducible apply al_s hT true
             · first | exact gchk_none rfl | simp only [go_sem, *]
             · simp only [go_sem, hmu, hhu, *]; first | done | with_reducible rfl)
          | (with_reducible apply al_q hT
             · first | exact gchk_none rfl | simp only [go_sem, *]
             · simp only [go_sem, hmu, hhu, *]; first | done | with_reducible rfl
             · simp only [go_sem, hmu, hhu]; with_reducible rfl)
          | (with_reducible apply al_skip
             · simp only [go_sem, *]
             · simp only [go_sem, hmu, hhu]; with_reducible rfl)
          | ((with_reducible first | apply al_caseT rfl | apply al_caseF rfl)
             · simp only [go_sem, *]; with_reducible rfl
             · simp only [go_sem, hmu, hhu]; with_reducible rfl
             all_goals (intro h; try simp only [Bool.not_eq_true', Bool.not_eq_false'] at h)
             fail_if_success (with_reducible have hh : (true = true ∨ false = false) := by first | exact Or.inl h | exact Or.inr h))
          )
          refine ⟨f.length - (j + 1), by omega, i + 1, j + 1, M.set i y, rfl, by omega, by omega, by simpa using hM, ?_, ?_, ?_⟩
          · rw [hff, take_set_succ (by omega)]; simp
          · rw [List.drop_set_of_lt (by omega), hdr]
          · simp only [clr, go_sem, *]
      · have hd1 : decide ((j : Int) < (f.length : Int)) = false := by simp; omega
        have hML : (M.map encInt).length = f.length := by rw [List.length_map, hM]
        have hjn : f.take j = f := List.take_of_length_le (by omega)
        rw [hjn] at ht
        have hil : i ≤ f.length := by omega
        have h0i : (0 : Int) ≤ (i : Int) := by omega
        have hii : (i : Int) ≤ (f.length : Int) := by omega
        obtain ⟨Q, hQ⟩ : ∃ Q, (M.map encInt).take i ++ (List.replicate (f.length - i) (AV.int .i64 0) ++ (M.map encInt).drop (i + (f.length - i))) = Q := ⟨_, rfl⟩
        have hQl : Q.length = f.length := by rw [← hQ]; simp; omega
        have hQt : Q.take i = (f.filter fun x => !p x).map encInt := by rw [← hQ, List.take_left' (by simp; omega), ← List.map_take, ht]
        have hQa : (Q.all fun u => alen u == 1) = true := by
          rw [← hQ]
          simp only [List.all_append, Bool.and_eq_true, List.all_eq_true, beq_iff_eq]
          refine ⟨fun u hu => ?_, fun u hu => ?_, fun u hu => ?_⟩
          · obtain ⟨v, _, rfl⟩ := List.mem_map.1 (List.mem_of_mem_take hu); rfl
          · rw [List.eq_of_mem_replicate hu]; rfl
          · obtain ⟨v, _, rfl⟩ := List.mem_map.1 (List.mem_of_mem_drop hu); rfl
        clear hp hd ht
        repeat' (first
        | with_reducible first | refine aw_seq ?_ | refine aw_block ?_ | refine aw_skip ?_ | refine aw_exit ?_
        | with_reducible first | refine aw_ret ?_ | refine thenA_n ?_ | refine thenA_r ?_ | refine thenA_x ?_ | refine blockA_n ?_ | refine blockA_r ?_ | refine blockA_e ?_ | refine blockA_x (by decide) ?_ | refine ends_r ?_ | refine ends_n ?_ | refine ends_rM ?_ | refine ends_nM ?_ | refine aw_reg ?_
        | (with_reducible refine aw_any hT ?_ ?_; · decide +kernel)
        | with_reducible refine al_nil ?_
        | (with_reducible apply aw_cond
           · simp only [go_sem, *]; with_reducible rfl
           all_goals (intro h; try simp only [Bool.not_eq_true', Bool.not_eq_false', reduceCtorEq] at h))
        | (with_reducible apply al_call (f := 79)
           · first | exact gchk_none rfl | simp only [go_sem, *]
           · rfl
           · exact Tryz.call79
           · simp only [go_sem, hmu, hhu, hQ, *]; with_reducible rfl
           · simp only [go_sem, *]
           · first | assumption | ((with_reducible apply c_slices_IndexFunc_int_int) <;> first | assumption | rfl)
           · simp only [go_sem, hmu, hhu, hQ]; with_reducible rfl)
        | (with_reducible apply al_snap (f := 79)
           · first | exact gchk_none rfl | simp only [go_sem, *]
           · rfl
           · exact Tryz.call79
           · simp only [go_sem, hmu, hhu, hQ, *]; with_reducible rfl
           · simp only [go_sem, hmu, hhu, hQ, *]; with_reducible rfl
           · first | assumption | ((with_reducible apply c_slices_IndexFunc_int_int) <;> first | assumption | rfl)
           · simp only [go_sem, *]
           · simp only [go_sem, hmu, hhu, hQ]; with_reducible rfl)
        | (with_reducible apply al_callv
           · exact gchk_none rfl
           · rfl
           · simp only [go_sem, hmu, hhu, hQ, *]; with_reducible rfl
           · assumption
           · assumption
           · simp only [go_sem, hmu, hhu, hQ, *]; with_reducible rfl
           · simp only [go_sem, hmu, hhu, hQ, *]; with_reducible rfl
           · assumption
           · simp only [go_sem]
           · simp only [go_sem, hmu, hhu, hQ]; with_reducible rfl)
        | (with_reducible apply al_clear hT
           · exact gchk_none rfl
           · rfl
           · rfl
           · simp only [go_sem]; first | done | with_reducible rfl
           · simp only [go_sem]; first | done | with_reducible rfl
           · simp only [go_sem, hmu, hhu, hQ, *]; with_reducible rfl
           · simp only [go_sem, hmu, hhu, hQ, *]; with_reducible rfl
           · simp only [go_sem]
           · simp only [go_sem, *]
           · simp only [go_sem, hmu, hhu, hQ]; with_reducible rfl)
        | (with_reducible apply al_anil hT
           · exact gchk_none rfl
           · rfl
           · simp only [go_sem]; first | done | with_reducible rfl
           · simp only [go_sem, hmu, hhu, hQ]; with_reducible rfl)
        | (with_reducible apply al_s hT true
           · first | exact gchk_none rfl | simp only [go_sem, *]
           · simp only [go_sem, hmu, hhu, hQ, *]; first | done | with_reducible rfl)
        | (with_reducible apply al_q hT
           · first | exact gchk_none rfl | simp only [go_sem, *]
           · simp only [go_sem, hmu, hhu, hQ, *]; first | done | with_reducible rfl
           · simp only [go_sem, hmu, hhu, hQ]; with_reducible rfl)
        | (with_reducible apply al_skip
           · simp only [go_sem, *]
           · simp only [go_sem, hmu, hhu, hQ]; with_reducible rfl)
        | ((with_reducible first | apply al_caseT rfl | apply al_caseF rfl)
           · simp only [go_sem, *]; with_reducible rfl
           · simp only [go_sem, hmu, hhu, hQ]; with_reducible rfl
           all_goals (intro h; try simp only [Bool.not_eq_true', Bool.not_eq_false'] at h)
           fail_if_success (with_reducible have hh : (true = true ∨ false = false) := by first | exact Or.inl h | exact Or.inr h))
        )
        all_goals ((simp only [go_sem, *]); first | done | rfl)
noncomputable abbrev ic_slices_DeleteFunc_int_int := ConM.mk (P := P) (f := 63) Tryz.call63 @c_slices_DeleteFunc_int_int
attribute [instance] ic_slices_DeleteFunc_int_int
end Go.Proofs.YtlgdijjkegeccaaGreat
namespace Go.Proofs.YtlgdijjkegeccaaGreat
open Go Go.RowKit Go.Bv
set_option linter.unusedSimpArgs false
set_option linter.unusedVariables false
set_option maxRecDepth 4000
set_option maxHeartbeats 1000000
/-! The walks that end. -/
theorem sFnXc89F {p q : Prop} (k : q) (h : q → p := by
  first
  | exact shRt (by exact i_g (r := 4) (pth := []) 1)
  | exact i1F
  | fail) : p := h k

theorem c_slices_Grow_int_int (n : Nat) (hn : n ≤ 4194304) : Sound P 89 [.lst true 0 [], .int .i64 n] (.lst true 1 []) := by
  have h0 : decide ((n : Int) < 0) = false := by simp
  have hw1 : IntKind.i64.wrap (n : Int) = n := by rw [wrap_small] <;> omega
  refine snd_b hT Tryz.func89 Tryz.results89 Tryz.ntmps89 ?_
  repeat' (first | refine sFnXc89F ?_ | (refine two ?_ ?_; all_goals (intro h; try simp only [Bool.not_eq_true', Bool.not_eq_false', reduceCtorEq] at h)) | fail)
  all_goals (simp only [go_sem, *])
noncomputable abbrev ic_slices_Grow_int_int := Con.mk (P := P) (f := 89) Tryz.call89 @c_slices_Grow_int_int
attribute [instance] ic_slices_Grow_int_int
/-- Lists of terms, of any size. -/
def encLI (p : Nat × List Int) : AV := .lst false p.1 (p.2.map encInt)
def catI (L : List (Nat × List Int)) : List Int := (L.map (·.2)).flatten
theorem catI_append (L M : List (Nat × List Int)) : catI (L ++ M) = catI L ++ catI M := by simp [catI, List.map_append]
theorem catI_len (L : List (Nat × List Int)) (i : Nat) : (catI (L.take i)).length ≤ (catI L).length := by
  have := congrArg List.length (catI_append (L.take i) (L.drop i))
  rw [List.take_append_drop, List.length_append] at this
  omega
theorem catI_succ {L : List (Nat × List Int)} {i : Nat} {p : Nat × List Int} (h : L[i]? = some p) : catI (L.take (i + 1)) = catI (L.take i) ++ p.2 := by
  rw [List.take_add_one, h]; simp [catI, List.map_append]
theorem concatInts (L : List (Nat × List Int)) (hL : L.length ≤ 1000) (hc : (catI L).length ≤ 2097152) : Sound P 77 [.lst false 1 (L.map encLI)] (.lst true 1 ((catI L).map encInt)) := by
  refine snd_b hT Tryz.func77 Tryz.results77 Tryz.ntmps77 ?_
  repeat' (first | refine oneF ?_ | (refine two ?_ ?_; all_goals (intro h; try simp only [Bool.not_eq_true', Bool.not_eq_false', reduceCtorEq] at h)) | fail)
  refine aw_loop [1, 4, 5, 6, 7, 8, 12, 13, 14, 15, 16, 17, 18, 19, 20, 21, 22, 23, 24, 25, 26, 27, 28, 29, 30, 31, 32, 33, 34, 35] (fun n S => ∃ i : Nat, n = L.length - i ∧ i ≤ L.length ∧ S = [.lst false 1 (L.map encLI), .undef, .lst true 1 [], .int .i64 (catI (L.take i)).length, .undef, .undef, .undef, .undef, .undef, .lst false 1 (L.map encLI), .int .i64 L.length, .int .i64 i, .undef, .undef, .undef, .undef, .undef, .undef, .undef, .undef, .undef, .undef, .undef, .undef, .undef, .undef, .undef, .undef, .undef, .undef, .undef, .undef, .undef, .undef, .undef, .undef]) L.length ?_ ?_
  · refine ⟨0, by simp, by omega, ?_⟩
    simp only [clr, go_sem]
    first | done | rfl
  · rintro n S ⟨i, hn, hi, rfl⟩
    have hwi : IntKind.i64.wrap ((i : Int) + 1) = ((i + 1 : Nat) : Int) := by rw [wrap_small] <;> omega
    have hci := catI_len L i
    by_cases hlt : i < L.length
    · have hd : decide ((i : Int) < (L.length : Int)) = true := by simp [hlt]
      obtain ⟨p, hp⟩ : ∃ p, L[i]? = some p := ⟨L[i], by simp [hlt]⟩
      have hci' := catI_len L (i + 1)
      have hs := catI_succ hp
      have hsl : (catI (L.take (i + 1))).length = (catI (L.take i)).length + p.2.length := by rw [hs]; simp
      have hwl : IntKind.i64.wrap (((catI (L.take i)).length : Int) + (p.2.length : Int)) = ((catI (L.take (i + 1))).length : Int) := by rw [wrap_small] <;> omega
      have hneg : decide (((catI (L.take (i + 1))).length : Int) < 0) = false := by simp
      clear hs hsl
      (all_goals (have E0 := @encLI.eq_1))
      repeat' (first | refine oneF ?_ | (refine two ?_ ?_; all_goals (intro h; try simp only [Bool.not_eq_true', Bool.not_eq_false', reduceCtorEq] at h)) | fail)
      all_goals (try clear E0)
      refine ⟨L.length - (i + 1), by omega, i + 1, rfl, by omega, ?_⟩
      simp only [clr, go_sem]
    · have hd : decide ((i : Int) < (L.length : Int)) = false := by simp; omega
      have hall : catI (L.take i) = catI L := by rw [List.take_of_length_le (by omega)]
      rw [hall]
      have hcg : (catI L).length ≤ 4194304 := by omega
      repeat' (first | refine oneF ?_ | (refine two ?_ ?_; all_goals (intro h; try simp only [Bool.not_eq_true', Bool.not_eq_false', reduceCtorEq] at h)) | fail)
      clear hall
      refine aw_loop [1, 3, 4, 5, 7, 8, 9, 10, 11, 12, 13, 14, 15, 16, 17, 18, 19, 20, 21, 22, 23, 24, 28, 29, 30, 31, 32, 33, 34, 35] (fun n S => ∃ i : Nat, n = L.length - i ∧ i ≤ L.length ∧ S = [.lst false 1 (L.map encLI), .undef, .lst true 1 [], .undef, .undef, .undef, .lst true 1 ((catI (L.take i)).map encInt), .undef, .undef, .undef, .undef, .undef, .undef, .undef, .undef, .undef, .undef, .undef, .undef, .undef, .undef, .undef, .undef, .undef, .undef, .lst false 1 (L.map encLI), .int .i64 L.length, .int .i64 i, .undef, .undef, .undef, .undef, .undef, .undef, .undef, .undef]) L.length ?_ ?_
      · refine ⟨0, by simp, by omega, ?_⟩
        simp only [clr, go_sem]
        first | done | rfl
      · rintro n S ⟨j, hn, hj, rfl⟩
        have hwj : IntKind.i64.wrap ((j : Int) + 1) = ((j + 1 : Nat) : Int) := by rw [wrap_small] <;> omega
        have hcj := catI_len L j
        by_cases hlt : j < L.length
        · have hd : decide ((j : Int) < (L.length : Int)) = true := by simp [hlt]
          obtain ⟨p, hp⟩ : ∃ p, L[j]? = some p := ⟨L[j], by simp [hlt]⟩
          have hcj' := catI_len L (j + 1)
          have hs := catI_succ hp
          have hsl : (catI (L.take (j + 1))).length = (catI (L.take j)).length + p.2.length := by rw [hs]; simp
          have hwl : (catI (L.take j)).map encInt ++ p.2.map encInt = (catI (L.take (j + 1))).map encInt := by rw [hs]; simp
          clear hs
          (all_goals (have E0 := @encLI.eq_1))
          repeat' (first | refine oneF ?_ | (refine two ?_ ?_; all_goals (intro h; try simp only [Bool.not_eq_true', Bool.not_eq_false', reduceCtorEq] at h)) | fail)
          all_goals (try clear E0)
          refine ⟨L.length - (j + 1), by omega, j + 1, rfl, by omega, ?_⟩
          simp only [clr, go_sem, hwl]
        · have hd : decide ((j : Int) < (L.length : Int)) = false := by simp; omega
          have hall : catI (L.take j) = catI L := by rw [List.take_of_length_le (by omega)]
          rw [hall]
          clear hall
          repeat' (first | refine oneF ?_ | (refine two ?_ ?_; all_goals (intro h; try simp only [Bool.not_eq_true', Bool.not_eq_false', reduceCtorEq] at h)) | fail)
          all_goals (simp only [go_sem, *])
theorem c_slices_Concat_int_int {s s' : Nat} (f g : List Int) (hf : f.length ≤ 1048576) (hg : g.length ≤ 1048576) : Sound P 77 [.lst false 1 [.lst false s (f.map encInt), .lst false s' (g.map encInt)]] (.lst true 1 ((f ++ g).map encInt)) := by
  have h := concatInts [(s, f), (s', g)] (by simp) (by simp [catI]; omega)
  simpa only [catI, encLI, List.map_cons, List.map_nil, List.flatten_cons, List.flatten_nil, List.append_nil] using h
noncomputable abbrev ic_slices_Concat_int_int := Con.mk (P := P) (f := 77) Tryz.call77 @c_slices_Concat_int_int
attribute [instance] ic_slices_Concat_int_int
end Go.Proofs.YtlgdijjkegeccaaGreat
