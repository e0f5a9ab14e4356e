/- Contracts of the slices package at lists of impl.Sub. -/
import Derived.Test.YtlgdijjkegeccaaFnW
import Derived.Test.YtlgdijjkegeccaaGlSub
namespace Go.Proofs.Ytlgdijjkegeccaa
open Go Go.RowKit Go.Bv
set_option linter.unusedSimpArgs false
set_option linter.unusedVariables false
set_option maxRecDepth 4000
set_option maxHeartbeats 1000000
theorem c_slices_IndexFunc_impl_Sub_impl_Sub {g : Nat} {us : List AV} (f : List SubV) (p : SubV → Bool) (hp : ∀ x ∈ f, Sound P g ((encSub false) x :: us) (.bool (p x))) (hg : ∀ vs w, (callFunc g vs).run P w = .ok (.enter g vs) w) (hus : ipsA us = true) (hl : f.length < 4611686018427387904) :
    Sound P 124 [.lst false 7 (f.map (encSub false)), .fn g us] (.int .i64 (idxP p f)) := by
  have hsn := asnaps_ips hus
  have hna := noAgg_ips hus
  have hpu := ips_pl hus
  have hmu := fun d => plAs_men d us hpu
  have hhu := fun r q => plAs_hit r q us hpu
  have hdu := fun r => plAs_deep r us hpu
  have hvu : ∀ t q i, aviews t q i us = us := ips_view hus
  refine snd_b hT Try.func124 Try.results124 Try.ntmps124 ?_
  repeat' (first
  | with_reducible first | refine aw_seq ?_ | refine aw_block ?_ | refine aw_skip ?_ | refine aw_exit ?_
  | with_reducible first | refine aw_ret ?_ | refine thenA_n ?_ | refine thenA_r ?_ | refine thenA_x ?_ | refine blockA_n ?_ | refine blockA_r ?_ | refine blockA_e ?_ | refine blockA_x (by decide) ?_ | refine ends_r ?_ | refine ends_n ?_ | refine ends_rM ?_ | refine ends_nM ?_ | refine aw_reg ?_
  | with_reducible refine al_nil ?_
  | (with_reducible apply al_s hT true
     · first | exact gchk_none rfl | simp only [go_sem, *]
     · simp only [go_sem, hmu, hhu, *]; first | done | with_reducible rfl)
  )
  refine aw_loop [2, 3, 5, 9, 10, 11, 12, 13, 14, 15, 16, 17, 18] (fun n S => ∃ i : Nat, n = f.length - i ∧ i ≤ f.length ∧ AheadP p f i ∧ S = [.lst false 7 (f.map (encSub false)), .fn g us, .undef, .undef, .int .i64 0, .undef, .lst false 7 (f.map (encSub false)), .int .i64 f.length, .int .i64 i, .undef, .undef, .undef, .undef, .undef, .undef, .undef, .undef, .undef, .undef]) f.length ?_ ?_
  · refine ⟨0, by simp, by omega, .zero, ?_⟩
    simp only [clr, go_sem, hmu, hhu]
    first | done | rfl
  · rintro n S ⟨i, hn, hi, ha, rfl⟩
    have hwi : IntKind.i64.wrap ((i : Int) + 1) = ((i + 1 : Nat) : Int) := by rw [wrap_small] <;> omega
    by_cases hlt : i < f.length
    · have hd : decide ((i : Int) < (f.length : Int)) = true := by simp [hlt]
      obtain ⟨y, hy⟩ : ∃ y, f[i]? = some y := ⟨f[i], by simp [hlt]⟩
      have hpy := hp y (List.mem_of_getElem? hy)
      simp only [encSub] at hpy
      clear hp
      repeat' (first
      | with_reducible first | refine aw_seq ?_ | refine aw_block ?_ | refine aw_skip ?_ | refine aw_exit ?_
      | with_reducible first | refine aw_ret ?_ | refine thenA_n ?_ | refine thenA_r ?_ | refine thenA_x ?_ | refine blockA_n ?_ | refine blockA_r ?_ | refine blockA_e ?_ | refine blockA_x (by decide) ?_ | refine ends_r ?_ | refine ends_n ?_ | refine ends_rM ?_ | refine ends_nM ?_ | refine aw_reg ?_
      | with_reducible refine al_nil ?_
      | (with_reducible apply aw_cond
         · simp only [go_sem, *]; with_reducible rfl
         all_goals (intro h; try simp only [Bool.not_eq_true', Bool.not_eq_false', reduceCtorEq] at h))
      | (with_reducible apply al_callv
         · exact gchk_none rfl
         · rfl
         · simp only [go_sem, encSub, hmu, hhu, *]; with_reducible rfl
         · assumption
         · assumption
         · simp only [go_sem, encSub, hmu, hhu, *]; with_reducible rfl
         · simp only [go_sem, encSub, hmu, hhu, *]; with_reducible rfl
         · assumption
         · simp only [go_sem]
         · simp only [go_sem, hmu, hhu]; with_reducible rfl)
      | (with_reducible apply al_s hT true
         · first | exact gchk_none rfl | simp only [go_sem, *]
         · simp only [go_sem, encSub, hmu, hhu, *]; first | done | with_reducible rfl)
      )
      · (simp only [go_sem, *])
        rw [idxP_some hy h ha]
      · refine ⟨f.length - (i + 1), by omega, i + 1, rfl, by omega, ha.succ hy h, ?_⟩
        simp only [clr, go_sem, hmu, hhu]
    · have hd : decide ((i : Int) < (f.length : Int)) = false := by simp; omega
      clear hp
      repeat' (first
      | with_reducible first | refine aw_seq ?_ | refine aw_block ?_ | refine aw_skip ?_ | refine aw_exit ?_
      | with_reducible first | refine aw_ret ?_ | refine thenA_n ?_ | refine thenA_r ?_ | refine thenA_x ?_ | refine blockA_n ?_ | refine blockA_r ?_ | refine blockA_e ?_ | refine blockA_x (by decide) ?_ | refine ends_r ?_ | refine ends_n ?_ | refine ends_rM ?_ | refine ends_nM ?_ | refine aw_reg ?_
      | with_reducible refine al_nil ?_
      | (with_reducible apply aw_cond
         · simp only [go_sem, *]; with_reducible rfl
         all_goals (intro h; try simp only [Bool.not_eq_true', Bool.not_eq_false', reduceCtorEq] at h))
      | (with_reducible apply al_s hT true
         · first | exact gchk_none rfl | simp only [go_sem, *]
         · simp only [go_sem, hmu, hhu, *]; first | done | with_reducible rfl)
      )
      (simp only [go_sem, *])
      rw [idxP_none (i := i) (by omega) ha]
noncomputable abbrev ic_slices_IndexFunc_impl_Sub_impl_Sub := Con.mk (P := P) (f := 124) Try.call124 @c_slices_IndexFunc_impl_Sub_impl_Sub
attribute [instance] ic_slices_IndexFunc_impl_Sub_impl_Sub
theorem c_slices_Clone_impl_Sub_impl_Sub (f : List SubV) (hf : f.length ≤ 4194304) : Sound P 118 [.lst false 7 (f.map (encSub false))] (.lst true 7 (f.map (encSub false))) := by
  refine snd_b hT Try.func118 Try.results118 Try.ntmps118 ?_
  repeat' (first
  | (with_reducible apply al_isnil hT
     · exact gchk_none rfl
     · rfl
     · simp only [go_sem]; first | done | with_reducible rfl
     · simp only [go_sem, *]; with_reducible rfl
     · simp only [go_sem, *]; with_reducible rfl
     intro b hb
     with_reducible apply al_cast
     · simp only [go_sem]; with_reducible rfl)
  | refine oneF ?_ | (refine two ?_ ?_; all_goals (intro h; try simp only [Bool.not_eq_true', Bool.not_eq_false', reduceCtorEq] at h)) | fail)
  · have hf0 : f = [] := by
      have : f.length = 0 := by
        by_cases h0 : f.length = 0
        · exact h0
        · have := hb h0; rw [h] at this; cases this
      exact List.eq_nil_of_length_eq_zero this
    subst hf0
    (simp only [go_sem, *])
    first | done | rfl
  · (simp only [go_sem, *])
noncomputable abbrev ic_slices_Clone_impl_Sub_impl_Sub := Con.mk (P := P) (f := 118) Try.call118 @c_slices_Clone_impl_Sub_impl_Sub
attribute [instance] ic_slices_Clone_impl_Sub_impl_Sub
end Go.Proofs.Ytlgdijjkegeccaa
