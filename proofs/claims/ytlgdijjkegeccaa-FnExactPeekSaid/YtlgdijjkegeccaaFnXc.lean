/- Contracts: slices.Concat of lists of numbers. -/
import Derived.Test.YtlgdijjkegeccaaFnW
namespace Go.Proofs.Ytlgdijjkegeccaa
open Go Go.RowKit Go.Bv
set_option linter.unusedSimpArgs false
set_option linter.unusedVariables false
set_option maxRecDepth 4000
set_option maxHeartbeats 1000000
/-! The walks that end. -/
theorem sFnXc154F {p q : Prop} (k : q) (h : q → p := by
  first
  | exact shRt (by exact i_g (r := 4) (pth := []) 1)
  | exact i1F
  | fail) : p := h k

theorem c_slices_Grow_int_int (n : Nat) (hn : n ≤ 4194304) : Sound P 154 [.lst true 0 [], .int .i64 n] (.lst true 1 []) := by
  have h0 : decide ((n : Int) < 0) = false := by simp
  have hw1 : IntKind.i64.wrap (n : Int) = n := by rw [wrap_small] <;> omega
  refine snd_b hT Try.func154 Try.results154 Try.ntmps154 ?_
  repeat' (first | refine sFnXc154F ?_ | (refine two ?_ ?_; all_goals (intro h; try simp only [Bool.not_eq_true', Bool.not_eq_false', reduceCtorEq] at h)) | fail)
  all_goals (simp only [go_sem, *])
noncomputable abbrev ic_slices_Grow_int_int := Con.mk (P := P) (f := 154) Try.call154 @c_slices_Grow_int_int
attribute [instance] ic_slices_Grow_int_int
/-- Lists of terms, of any size. -/
def encLI (p : Nat × List Int) : AV := .lst false p.1 (p.2.map encInt)
def catI (L : List (Nat × List Int)) : List Int := (L.map (·.2)).flatten
theorem catI_append (L M : List (Nat × List Int)) : catI (L ++ M) = catI L ++ catI M := by simp [catI, List.map_append]
theorem catI_len (L : List (Nat × List Int)) (i : Nat) : (catI (L.take i)).length ≤ (catI L).length := by
  have := congrArg List.length (catI_append (L.take i) (L.drop i))
  rw [List.take_append_drop, List.length_append] at this
  omega
theorem catI_succ {L : List (Nat × List Int)} {i : Nat} {p : Nat × List Int} (h : L[i]? = some p) : catI (L.take (i + 1)) = catI (L.take i) ++ p.2 := by
  rw [List.take_add_one, h]; simp [catI, List.map_append]
theorem concatInts (L : List (Nat × List Int)) (hL : L.length ≤ 1000) (hc : (catI L).length ≤ 2097152) : Sound P 136 [.lst false 1 (L.map encLI)] (.lst true 1 ((catI L).map encInt)) := by
  refine snd_b hT Try.func136 Try.results136 Try.ntmps136 ?_
  repeat' (first | refine oneF ?_ | (refine two ?_ ?_; all_goals (intro h; try simp only [Bool.not_eq_true', Bool.not_eq_false', reduceCtorEq] at h)) | fail)
  refine aw_loop [1, 4, 5, 6, 7, 8, 12, 13, 14, 15, 16, 17, 18, 19, 20, 21, 22, 23, 24, 25, 26, 27, 28, 29, 30, 31, 32, 33, 34, 35] (fun n S => ∃ i : Nat, n = L.length - i ∧ i ≤ L.length ∧ S = [.lst false 1 (L.map encLI), .undef, .lst true 1 [], .int .i64 (catI (L.take i)).length, .undef, .undef, .undef, .undef, .undef, .lst false 1 (L.map encLI), .int .i64 L.length, .int .i64 i, .undef, .undef, .undef, .undef, .undef, .undef, .undef, .undef, .undef, .undef, .undef, .undef, .undef, .undef, .undef, .undef, .undef, .undef, .undef, .undef, .undef, .undef, .undef, .undef]) L.length ?_ ?_
  · refine ⟨0, by simp, by omega, ?_⟩
    simp only [clr, go_sem]
    first | done | rfl
  · rintro n S ⟨i, hn, hi, rfl⟩
    have hwi : IntKind.i64.wrap ((i : Int) + 1) = ((i + 1 : Nat) : Int) := by rw [wrap_small] <;> omega
    have hci := catI_len L i
    by_cases hlt : i < L.length
    · have hd : decide ((i : Int) < (L.length : Int)) = true := by simp [hlt]
      obtain ⟨p, hp⟩ : ∃ p, L[i]? = some p := ⟨L[i], by simp [hlt]⟩
      have hci' := catI_len L (i + 1)
      have hs := catI_succ hp
      have hsl : (catI (L.take (i + 1))).length = (catI (L.take i)).length + p.2.length := by rw [hs]; simp
      have hwl : IntKind.i64.wrap (((catI (L.take i)).length : Int) + (p.2.length : Int)) = ((catI (L.take (i + 1))).length : Int) := by rw [wrap_small] <;> omega
      have hneg : decide (((catI (L.take (i + 1))).length : Int) < 0) = false := by simp
      clear hs hsl
      (all_goals (have E0 := @encLI.eq_1))
      repeat' (first | refine oneF ?_ | (refine two ?_ ?_; all_goals (intro h; try simp only [Bool.not_eq_true', Bool.not_eq_false', reduceCtorEq] at h)) | fail)
      all_goals (try clear E0)
      refine ⟨L.length - (i + 1), by omega, i + 1, rfl, by omega, ?_⟩
      simp only [clr, go_sem]
    · have hd : decide ((i : Int) < (L.length : Int)) = false := by simp; omega
      have hall : catI (L.take i) = catI L := by rw [List.take_of_length_le (by omega)]
      rw [hall]
      have hcg : (catI L).length ≤ 4194304 := by omega
      repeat' (first | refine oneF ?_ | (refine two ?_ ?_; all_goals (intro h; try simp only [Bool.not_eq_true', Bool.not_eq_false', reduceCtorEq] at h)) | fail)
      clear hall
      refine aw_loop [1, 3, 4, 5, 7, 8, 9, 10, 11, 12, 13, 14, 15, 16, 17, 18, 19, 20, 21, 22, 23, 24, 28, 29, 30, 31, 32, 33, 34, 35] (fun n S => ∃ i : Nat, n = L.length - i ∧ i ≤ L.length ∧ S = [.lst false 1 (L.map encLI), .undef, .lst true 1 [], .undef, .undef, .undef, .lst true 1 ((catI (L.take i)).map encInt), .undef, .undef, .undef, .undef, .undef, .undef, .undef, .undef, .undef, .undef, .undef, .undef, .undef, .undef, .undef, .undef, .undef, .undef, .lst false 1 (L.map encLI), .int .i64 L.length, .int .i64 i, .undef, .undef, .undef, .undef, .undef, .undef, .undef, .undef]) L.length ?_ ?_
      · refine ⟨0, by simp, by omega, ?_⟩
        simp only [clr, go_sem]
        first | done | rfl
      · rintro n S ⟨j, hn, hj, rfl⟩
        have hwj : IntKind.i64.wrap ((j : Int) + 1) = ((j + 1 : Nat) : Int) := by rw [wrap_small] <;> omega
        have hcj := catI_len L j
        by_cases hlt : j < L.length
        · have hd : decide ((j : Int) < (L.length : Int)) = true := by simp [hlt]
          obtain ⟨p, hp⟩ : ∃ p, L[j]? = some p := ⟨L[j], by simp [hlt]⟩
          have hcj' := catI_len L (j + 1)
          have hs := catI_succ hp
          have hsl : (catI (L.take (j + 1))).length = (catI (L.take j)).length + p.2.length := by rw [hs]; simp
          have hwl : (catI (L.take j)).map encInt ++ p.2.map encInt = (catI (L.take (j + 1))).map encInt := by rw [hs]; simp
          clear hs
          (all_goals (have E0 := @encLI.eq_1))
          repeat' (first | refine oneF ?_ | (refine two ?_ ?_; all_goals (intro h; try simp only [Bool.not_eq_true', Bool.not_eq_false', reduceCtorEq] at h)) | fail)
          all_goals (try clear E0)
          refine ⟨L.length - (j + 1), by omega, j + 1, rfl, by omega, ?_⟩
          simp only [clr, go_sem, hwl]
        · have hd : decide ((j : Int) < (L.length : Int)) = false := by simp; omega
          have hall : catI (L.take j) = catI L := by rw [List.take_of_length_le (by omega)]
          rw [hall]
          clear hall
          repeat' (first | refine oneF ?_ | (refine two ?_ ?_; all_goals (intro h; try simp only [Bool.not_eq_true', Bool.not_eq_false', reduceCtorEq] at h)) | fail)
          all_goals (simp only [go_sem, *])
theorem c_slices_Concat_int_int {s s' : Nat} (f g : List Int) (hf : f.length ≤ 1048576) (hg : g.length ≤ 1048576) : Sound P 136 [.lst false 1 [.lst false s (f.map encInt), .lst false s' (g.map encInt)]] (.lst true 1 ((f ++ g).map encInt)) := by
  have h := concatInts [(s, f), (s', g)] (by simp) (by simp [catI]; omega)
  simpa only [catI, encLI, List.map_cons, List.map_nil, List.flatten_cons, List.flatten_nil, List.append_nil] using h
noncomputable abbrev ic_slices_Concat_int_int := Con.mk (P := P) (f := 136) Try.call136 @c_slices_Concat_int_int
attribute [instance] ic_slices_Concat_int_int
end Go.Proofs.Ytlgdijjkegeccaa
