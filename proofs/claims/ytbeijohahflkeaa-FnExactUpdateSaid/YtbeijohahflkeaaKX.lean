/- Contracts of the slices package at lists of int. Contracts: slices.Concat of lists of numbers. -/
import Derived.Test.YtbeijohahflkeaaKG
namespace Go.Proofs.Ytbeijohahflkeaa
open Go Go.RowKit Go.Bv
set_option linter.unusedSimpArgs false
set_option linter.unusedVariables false
set_option maxRecDepth 4000
set_option maxHeartbeats 1000000
theorem c_slices_IndexFunc_int_int {g : Nat} {us : List AV} (f : List Int) (p : Int → Bool) (hp : ∀ x ∈ f, Sound P g (encInt x :: us) (.bool (p x))) (hg : ∀ vs w, (callFunc g vs).run P w = .ok (.enter g vs) w) (hus : ipsA us = true) (hl : f.length < 4611686018427387904) :
    Sound P 55 [.lst false 1 (f.map encInt), .fn g us] (.int .i64 (idxP p f)) := by
  have hsn := asnaps_ips hus
  have hna := noAgg_ips hus
  have hpu := ips_pl hus
  have hmu := fun d => plAs_men d us hpu
  have hhu := fun r q => plAs_hit r q us hpu
  have hdu := fun r => plAs_deep r us hpu
  have hvu : ∀ t q i, aviews t q i us = us := ips_view hus
  refine snd_b hT Try.func55 Try.results55 Try.ntmps55 ?_
  repeat' (first
  | with_reducible first | refine aw_seq ?_ | refine aw_block ?_ | refine aw_skip ?_ | refine aw_exit ?_
  | with_reducible first | refine aw_ret ?_ | refine thenA_n ?_ | refine thenA_r ?_ | refine thenA_x ?_ | refine blockA_n ?_ | refine blockA_r ?_ | refine blockA_e ?_ | refine blockA_x (by decide) ?_ | refine ends_r ?_ | refine ends_n ?_ | refine ends_rM ?_ | refine ends_nM ?_ | refine aw_reg ?_
  | with_reducible refine al_nil ?_
  | (with_reducible apply al_s hT true
     · first | exact gchk_none rfl | simp only [go_sem, *]
     · simp only [go_sem, hmu, hhu, *]; first | done | with_reducible rfl)
  )
  refine aw_loop [2, 3, 5, 9, 10, 11, 12, 13, 14, 15, 16, 17, 18] (fun n S => ∃ i : Nat, n = f.length - i ∧ i ≤ f.length ∧ AheadP p f i ∧ S = [.lst false 1 (f.map encInt), .fn g us, .undef, .undef, .int .i64 0, .undef, .lst false 1 (f.map encInt), .int .i64 f.length, .int .i64 i, .undef, .undef, .undef, .undef, .undef, .undef, .undef, .undef, .undef, .undef]) f.length ?_ ?_
  · refine ⟨0, by simp, by omega, .zero, ?_⟩
    simp only [clr, go_sem, hmu, hhu]
    first | done | rfl
  · rintro n S ⟨i, hn, hi, ha, rfl⟩
    have hwi : IntKind.i64.wrap ((i : Int) + 1) = ((i + 1 : Nat) : Int) := by rw [wrap_small] <;> omega
    by_cases hlt : i < f.length
    · have hd : decide ((i : Int) < (f.length : Int)) = true := by simp [hlt]
      obtain ⟨y, hy⟩ : ∃ y, f[i]? = some y := ⟨f[i], by simp [hlt]⟩
      have hpy := hp y (List.mem_of_getElem? hy)
      simp only [encInt] at hpy
      clear hp
      repeat' (first
      | with_reducible first | refine aw_seq ?_ | refine aw_block ?_ | refine aw_skip ?_ | refine aw_exit ?_
      | with_reducible first | refine aw_ret ?_ | refine thenA_n ?_ | refine thenA_r ?_ | refine thenA_x ?_ | refine blockA_n ?_ | refine blockA_r ?_ | refine blockA_e ?_ | refine blockA_x (by decide) ?_ | refine ends_r ?_ | refine ends_n ?_ | refine ends_rM ?_ | refine ends_nM ?_ | refine aw_reg ?_
      | with_reducible refine al_nil ?_
      | (with_reducible apply aw_cond
         · simp only [go_sem, *]; with_reducible rfl
         all_goals (intro h; try simp only [Bool.not_eq_true', Bool.not_eq_false', reduceCtorEq] at h))
      | (with_reducible apply al_callv
         · exact gchk_none rfl
         · rfl
         · simp only [go_sem, encInt, hmu, hhu, *]; with_reducible rfl
         · assumption
         · assumption
         · simp only [go_sem, encInt, hmu, hhu, *]; with_reducible rfl
         · simp only [go_sem, encInt, hmu, hhu, *]; with_reducible rfl
         · assumption
         · simp only [go_sem]
         · simp only [go_sem, hmu, hhu]; with_reducible rfl)
      | (with_reducible apply al_s hT true
         · first | exact gchk_none rfl | simp only [go_sem, *]
         · simp only [go_sem, encInt, hmu, hhu, *]; first | done | with_reducible rfl)
      )
      · (simp only [go_sem, *])
        rw [idxP_some hy h ha]
      · refine ⟨f.length - (i + 1), by omega, i + 1, rfl, by omega, ha.succ hy h, ?_⟩
        simp only [clr, go_sem, hmu, hhu]
    · have hd : decide ((i : Int) < (f.length : Int)) = false := by simp; omega
      clear hp
      repeat' (first
      | with_reducible first | refine aw_seq ?_ | refine aw_block ?_ | refine aw_skip ?_ | refine aw_exit ?_
      | with_reducible first | refine aw_ret ?_ | refine thenA_n ?_ | refine thenA_r ?_ | refine thenA_x ?_ | refine blockA_n ?_ | refine blockA_r ?_ | refine blockA_e ?_ | refine blockA_x (by decide) ?_ | refine ends_r ?_ | refine ends_n ?_ | refine ends_rM ?_ | refine ends_nM ?_ | refine aw_reg ?_
      | with_reducible refine al_nil ?_
      | (with_reducible apply aw_cond
         · simp only [go_sem, *]; with_reducible rfl
         all_goals (intro h; try simp only [Bool.not_eq_true', Bool.not_eq_false', reduceCtorEq] at h))
      | (with_reducible apply al_s hT true
         · first | exact gchk_none rfl | simp only [go_sem, *]
         · simp only [go_sem, hmu, hhu, *]; first | done | with_reducible rfl)
      )
      (simp only [go_sem, *])
      rw [idxP_none (i := i) (by omega) ha]
noncomputable abbrev ic_slices_IndexFunc_int_int := Con.mk (P := P) (f := 55) Try.call55 @c_slices_IndexFunc_int_int
attribute [instance] ic_slices_IndexFunc_int_int
theorem c_slices_ContainsFunc_int_int {g : Nat} {us : List AV} (f : List Int) (p : Int → Bool) (hp : ∀ x ∈ f, Sound P g (encInt x :: us) (.bool (p x))) (hg : ∀ vs w, (callFunc g vs).run P w = .ok (.enter g vs) w) (hus : ipsA us = true) (hl : f.length < 4611686018427387904) :
    Sound P 47 [.lst false 1 (f.map encInt), .fn g us] (.bool (f.any p)) := by
  have hsn := asnaps_ips hus
  have hpu := ips_pl hus
  have hmu := fun d => plAs_men d us hpu
  have hhu := fun r q => plAs_hit r q us hpu
  have hvu : ∀ t q i, aviews t q i us = us := ips_view hus
  have hc := c_slices_IndexFunc_int_int f p hp hg hus hl
  clear hp
  refine snd_b hT Try.func47 Try.results47 Try.ntmps47 ?_
  repeat' (first
  | with_reducible first | refine aw_seq ?_ | refine aw_block ?_ | refine aw_skip ?_ | refine aw_exit ?_
  | with_reducible first | refine aw_ret ?_ | refine thenA_n ?_ | refine thenA_r ?_ | refine thenA_x ?_ | refine blockA_n ?_ | refine blockA_r ?_ | refine blockA_e ?_ | refine blockA_x (by decide) ?_ | refine ends_r ?_ | refine ends_n ?_ | refine ends_rM ?_ | refine ends_nM ?_ | refine aw_reg ?_
  | (with_reducible refine aw_any hT ?_ ?_; · decide +kernel)
  | with_reducible refine al_nil ?_
  | (with_reducible apply aw_cond
     · simp only [go_sem, *]; with_reducible rfl
     all_goals (intro h; try simp only [Bool.not_eq_true', Bool.not_eq_false', reduceCtorEq] at h))
  | (with_reducible apply al_call (f := 55)
     · first | exact gchk_none rfl | simp only [go_sem, *]
     · rfl
     · exact Try.call55
     · simp only [go_sem, hmu, hhu, *]; with_reducible rfl
     · simp only [go_sem, *]
     · first | assumption | ((with_reducible apply c_slices_IndexFunc_int_int) <;> first | assumption | rfl)
     · simp only [go_sem, hmu, hhu]; with_reducible rfl)
  | (with_reducible apply al_snap (f := 55)
     · first | exact gchk_none rfl | simp only [go_sem, *]
     · rfl
     · exact Try.call55
     · simp only [go_sem, hmu, hhu, *]; with_reducible rfl
     · simp only [go_sem, hmu, hhu, *]; with_reducible rfl
     · first | assumption | ((with_reducible apply c_slices_IndexFunc_int_int) <;> first | assumption | rfl)
     · simp only [go_sem, *]
     · simp only [go_sem, hmu, hhu]; with_reducible rfl)
  | (with_reducible apply al_s hT true
     · first | exact gchk_none rfl | simp only [go_sem, *]
     · simp only [go_sem, hmu, hhu, *]; first | done | with_reducible rfl)
  | (with_reducible apply al_q hT
     · first | exact gchk_none rfl | simp only [go_sem, *]
     · simp only [go_sem, hmu, hhu, *]; first | done | with_reducible rfl
     · simp only [go_sem, hmu, hhu]; with_reducible rfl)
  | (with_reducible apply al_skip
     · simp only [go_sem, *]
     · simp only [go_sem, hmu, hhu]; with_reducible rfl)
  | ((with_reducible first | apply al_caseT rfl | apply al_caseF rfl)
     · simp only [go_sem, *]; with_reducible rfl
     · simp only [go_sem, hmu, hhu]; with_reducible rfl
     all_goals (intro h; try simp only [Bool.not_eq_true', Bool.not_eq_false'] at h)
     fail_if_success (with_reducible have hh : (true = true ∨ false = false) := by first | exact Or.inl h | exact Or.inr h))
  )
  (simp only [go_sem, *])
  rw [idxP_ge]
noncomputable abbrev ic_slices_ContainsFunc_int_int := Con.mk (P := P) (f := 47) Try.call47 @c_slices_ContainsFunc_int_int
attribute [instance] ic_slices_ContainsFunc_int_int
end Go.Proofs.Ytbeijohahflkeaa
namespace Go.Proofs.Ytbeijohahflkeaa
open Go Go.RowKit Go.Bv
set_option linter.unusedSimpArgs false
set_option linter.unusedVariables false
set_option maxRecDepth 4000
set_option maxHeartbeats 1000000
/-! The walks that end. -/
theorem sFnXc52F {p q : Prop} (k : q) (h : q → p := by
  first
  | exact shRt (by exact i_g (r := 4) (pth := []) 1)
  | exact i1F
  | fail) : p := h k

theorem c_slices_Grow_int_int (n : Nat) (hn : n ≤ 4194304) : Sound P 52 [.lst true 0 [], .int .i64 n] (.lst true 1 []) := by
  have h0 : decide ((n : Int) < 0) = false := by simp
  have hw1 : IntKind.i64.wrap (n : Int) = n := by rw [wrap_small] <;> omega
  refine snd_b hT Try.func52 Try.results52 Try.ntmps52 ?_
  repeat' (first | refine sFnXc52F ?_ | (refine two ?_ ?_; all_goals (intro h; try simp only [Bool.not_eq_true', Bool.not_eq_false', reduceCtorEq] at h)) | fail)
  all_goals (simp only [go_sem, *])
noncomputable abbrev ic_slices_Grow_int_int := Con.mk (P := P) (f := 52) Try.call52 @c_slices_Grow_int_int
attribute [instance] ic_slices_Grow_int_int
/-- Lists of terms, of any size. -/
def encLI (p : Nat × List Int) : AV := .lst false p.1 (p.2.map encInt)
def catI (L : List (Nat × List Int)) : List Int := (L.map (·.2)).flatten
theorem catI_append (L M : List (Nat × List Int)) : catI (L ++ M) = catI L ++ catI M := by simp [catI, List.map_append]
theorem catI_len (L : List (Nat × List Int)) (i : Nat) : (catI (L.take i)).length ≤ (catI L).length := by
  have := congrArg List.length (catI_append (L.take i) (L.drop i))
  rw [List.take_append_drop, List.length_append] at this
  omega
theorem catI_succ {L : List (Nat × List Int)} {i : Nat} {p : Nat × List Int} (h : L[i]? = some p) : catI (L.take (i + 1)) = catI (L.take i) ++ p.2 := by
  rw [List.take_add_one, h]; simp [catI, List.map_append]
theorem concatInts (L : List (Nat × List Int)) (hL : L.length ≤ 1000) (hc : (catI L).length ≤ 2097152) : Sound P 40 [.lst false 1 (L.map encLI)] (.lst true 1 ((catI L).map encInt)) := by
  refine snd_b hT Try.func40 Try.results40 Try.ntmps40 ?_
  repeat' (first | refine oneF ?_ | (refine two ?_ ?_; all_goals (intro h; try simp only [Bool.not_eq_true', Bool.not_eq_false', reduceCtorEq] at h)) | fail)
  refine aw_loop [1, 4, 5, 6, 7, 8, 12, 13, 14, 15, 16, 17, 18, 19, 20, 21, 22, 23, 24, 25, 26, 27, 28, 29, 30, 31, 32, 33, 34, 35] (fun n S => ∃ i : Nat, n = L.length - i ∧ i ≤ L.length ∧ S = [.lst false 1 (L.map encLI), .undef, .lst true 1 [], .int .i64 (catI (L.take i)).length, .undef, .undef, .undef, .undef, .undef, .lst false 1 (L.map encLI), .int .i64 L.length, .int .i64 i, .undef, .undef, .undef, .undef, .undef, .undef, .undef, .undef, .undef, .undef, .undef, .undef, .undef, .undef, .undef, .undef, .undef, .undef, .undef, .undef, .undef, .undef, .undef, .undef]) L.length ?_ ?_
  · refine ⟨0, by simp, by omega, ?_⟩
    simp only [clr, go_sem]
    first | done | rfl
  · rintro n S ⟨i, hn, hi, rfl⟩
    have hwi : IntKind.i64.wrap ((i : Int) + 1) = ((i + 1 : Nat) : Int) := by rw [wrap_small] <;> omega
    have hci := catI_len L i
    by_cases hlt : i < L.length
    · have hd : decide ((i : Int) < (L.length : Int)) = true := by simp [hlt]
      obtain ⟨p, hp⟩ : ∃ p, L[i]? = some p := ⟨L[i], by simp [hlt]⟩
      have hci' := catI_len L (i + 1)
      have hs := catI_succ hp
      have hsl : (catI (L.take (i + 1))).length = (catI (L.take i)).length + p.2.length := by rw [hs]; simp
      have hwl : IntKind.i64.wrap (((catI (L.take i)).length : Int) + (p.2.length : Int)) = ((catI (L.take (i + 1))).length : Int) := by rw [wrap_small] <;> omega
      have hneg : decide (((catI (L.take (i + 1))).length : Int) < 0) = false := by simp
      clear hs hsl
      (all_goals (have E0 := @encLI.eq_1))
      repeat' (first | refine oneF ?_ | (refine two ?_ ?_; all_goals (intro h; try simp only [Bool.not_eq_true', Bool.not_eq_false', reduceCtorEq] at h)) | fail)
      all_goals (try clear E0)
      refine ⟨L.length - (i + 1), by omega, i + 1, rfl, by omega, ?_⟩
      simp only [clr, go_sem]
    · have hd : decide ((i : Int) < (L.length : Int)) = false := by simp; omega
      have hall : catI (L.take i) = catI L := by rw [List.take_of_length_le (by omega)]
      rw [hall]
      have hcg : (catI L).length ≤ 4194304 := by omega
      repeat' (first | refine oneF ?_ | (refine two ?_ ?_; all_goals (intro h; try simp only [Bool.not_eq_true', Bool.not_eq_false', reduceCtorEq] at h)) | fail)
      clear hall
      refine aw_loop [1, 3, 4, 5, 7, 8, 9, 10, 11, 12, 13, 14, 15, 16, 17, 18, 19, 20, 21, 22, 23, 24, 28, 29, 30, 31, 32, 33, 34, 35] (fun n S => ∃ i : Nat, n = L.length - i ∧ i ≤ L.length ∧ S = [.lst false 1 (L.map encLI), .undef, .lst true 1 [], .undef, .undef, .undef, .lst true 1 ((catI (L.take i)).map encInt), .undef, .undef, .undef, .undef, .undef, .undef, .undef, .undef, .undef, .undef, .undef, .undef, .undef, .undef, .undef, .undef, .undef, .undef, .lst false 1 (L.map encLI), .int .i64 L.length, .int .i64 i, .undef, .undef, .undef, .undef, .undef, .undef, .undef, .undef]) L.length ?_ ?_
      · refine ⟨0, by simp, by omega, ?_⟩
        simp only [clr, go_sem]
        first | done | rfl
      · rintro n S ⟨j, hn, hj, rfl⟩
        have hwj : IntKind.i64.wrap ((j : Int) + 1) = ((j + 1 : Nat) : Int) := by rw [wrap_small] <;> omega
        have hcj := catI_len L j
        by_cases hlt : j < L.length
        · have hd : decide ((j : Int) < (L.length : Int)) = true := by simp [hlt]
          obtain ⟨p, hp⟩ : ∃ p, L[j]? = some p := ⟨L[j], by simp [hlt]⟩
          have hcj' := catI_len L (j + 1)
          have hs := catI_succ hp
          have hsl : (catI (L.take (j + 1))).length = (catI (L.take j)).length + p.2.length := by rw [hs]; simp
          have hwl : (catI (L.take j)).map encInt ++ p.2.map encInt = (catI (L.take (j + 1))).map encInt := by rw [hs]; simp
          clear hs
          (all_goals (have E0 := @encLI.eq_1))
          repeat' (first | refine oneF ?_ | (refine two ?_ ?_; all_goals (intro h; try simp only [Bool.not_eq_true', Bool.not_eq_false', reduceCtorEq] at h)) | fail)
          all_goals (try clear E0)
          refine ⟨L.length - (j + 1), by omega, j + 1, rfl, by omega, ?_⟩
          simp only [clr, go_sem, hwl]
        · have hd : decide ((j : Int) < (L.length : Int)) = false := by simp; omega
          have hall : catI (L.take j) = catI L := by rw [List.take_of_length_le (by omega)]
          rw [hall]
          clear hall
          repeat' (first | refine oneF ?_ | (refine two ?_ ?_; all_goals (intro h; try simp only [Bool.not_eq_true', Bool.not_eq_false', reduceCtorEq] at h)) | fail)
          all_goals (simp only [go_sem, *])
theorem c_slices_Concat_int_int {s s' : Nat} (f g : List Int) (hf : f.length ≤ 1048576) (hg : g.length ≤ 1048576) : Sound P 40 [.lst false 1 [.lst false s (f.map encInt), .lst false s' (g.map encInt)]] (.lst true 1 ((f ++ g).map encInt)) := by
  have h := concatInts [(s, f), (s', g)] (by simp) (by simp [catI]; omega)
  simpa only [catI, encLI, List.map_cons, List.map_nil, List.flatten_cons, List.flatten_nil, List.append_nil] using h
noncomputable abbrev ic_slices_Concat_int_int := Con.mk (P := P) (f := 40) Try.call40 @c_slices_Concat_int_int
attribute [instance] ic_slices_Concat_int_int
end Go.Proofs.Ytbeijohahflkeaa
