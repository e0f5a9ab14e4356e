/- Contracts: lists of numbers. -/
import Derived.Test.YtedjmclcjkcooaaFnA
import Derived.Test.YtedjmclcjkcooaaGlInt
namespace Go.Proofs.Ytedjmclcjkcooaa
open Go Go.RowKit Go.Bv
set_option linter.unusedSimpArgs false
set_option linter.unusedVariables false
set_option maxRecDepth 4000
set_option maxHeartbeats 1000000

/-- Where it first stands; -1: nowhere. -/
def idxP {α : Type} (p : α → Bool) (f : List α) : Int := match f.findIdx? p with | some i => i | none => -1
theorem idxP_none {α : Type} {p : α → Bool} {f : List α} {i : Nat} (hi : f.length ≤ i) (h : ∀ j x, j < i → f[j]? = some x → p x = false) : idxP p f = -1 := by
  unfold idxP
  have : f.findIdx? p = none := by
    rw [List.findIdx?_eq_none_iff]
    intro x hx
    obtain ⟨j, hj, rfl⟩ := List.getElem_of_mem hx
    exact h j _ (by omega) (List.getElem?_eq_getElem hj)
  rw [this]
theorem idxP_some {α : Type} {p : α → Bool} {f : List α} {i : Nat} {x : α} (hx : f[i]? = some x) (hp : p x = true) (h : ∀ j x, j < i → f[j]? = some x → p x = false) : idxP p f = i := by
  unfold idxP
  have hi := (List.getElem?_eq_some_iff.1 hx).1
  have hxe := (List.getElem?_eq_some_iff.1 hx).2
  have : f.findIdx? p = some i := by
    rw [List.findIdx?_eq_some_iff_getElem]
    exact ⟨hi, by rw [hxe, hp], fun j hj => by rw [h j _ hj (List.getElem?_eq_getElem (by omega))]; simp⟩
  rw [this]
theorem idxP_ge {α : Type} (p : α → Bool) (f : List α) : decide (idxP p f ≥ 0) = f.any p := by
  unfold idxP
  cases h : f.findIdx? p with
  | none =>
    rw [List.findIdx?_eq_none_iff] at h
    have : f.any p = false := by rw [List.any_eq_false]; intro x hx; simp [h x hx]
    rw [this]; decide
  | some i =>
    obtain ⟨hi, hp, _⟩ := List.findIdx?_eq_some_iff_getElem.1 h
    have : f.any p = true := List.any_eq_true.2 ⟨_, List.getElem_mem hi, hp⟩
    rw [this]; simp
theorem idxP_cases {α : Type} (p : α → Bool) (f : List α) : (idxP p f = -1 ∧ f.any p = false) ∨ ∃ i x, idxP p f = (i : Nat) ∧ i < f.length ∧ f[i]? = some x ∧ p x = true ∧ ∀ j y, j < i → f[j]? = some y → p y = false := by
  have hge := idxP_ge p f
  unfold idxP at hge ⊢
  cases h : f.findIdx? p with
  | none => rw [h] at hge; left; simpa using hge.symm
  | some i =>
    obtain ⟨hi, hp, hn⟩ := List.findIdx?_eq_some_iff_getElem.1 h
    refine .inr ⟨i, f[i], rfl, hi, List.getElem?_eq_getElem hi, hp, fun j y hj hy => ?_⟩
    have := hn j hj
    rw [List.getElem?_eq_getElem (by omega)] at hy
    simp only [Option.some.injEq] at hy
    subst hy
    simpa using this
/-- Told of those ahead. -/
def AheadP {α : Type} (p : α → Bool) (f : List α) (i : Nat) : Prop := ∀ j x, j < i → f[j]? = some x → p x = false
theorem AheadP.zero {α : Type} {p : α → Bool} {f : List α} : AheadP p f 0 := fun j _ h => by omega
theorem AheadP.succ {α : Type} {p : α → Bool} {f : List α} {i : Nat} {x : α} (h : AheadP p f i) (hx : f[i]? = some x) (hp : p x = false) : AheadP p f (i + 1) := by
  intro j y hj hy
  by_cases e : j = i
  · subst e; rw [hx] at hy; cases hy; exact hp
  · exact h j y (by omega) hy
theorem AheadP.any {α : Type} {p : α → Bool} {f : List α} {i : Nat} (h : AheadP p f i) (hi : f.length ≤ i) : f.any p = false := by
  rw [List.any_eq_false]
  intro x hx
  obtain ⟨j, hj, rfl⟩ := List.getElem_of_mem hx
  simp [h j _ (by omega) (List.getElem?_eq_getElem hj)]
theorem any_at {α : Type} {p : α → Bool} {f : List α} {i : Nat} {x : α} (hx : f[i]? = some x) (hp : p x = true) : f.any p = true := List.any_eq_true.2 ⟨x, List.mem_of_getElem? hx, hp⟩

theorem c_spec_l2Has (f : List Int) (x : Int) (hl : f.length < 4611686018427387904) : Sound P 43 [.lst false 1 (f.map encInt), .int .i64 x] (.bool (f.any (· == x))) := by
  refine sound_body hT Try.func43 rfl ?_
  rw [Try.results43, Try.ntmps43]
  simp only [frame, List.length_cons, List.length_nil, List.replicate, List.cons_append, List.nil_append, Nat.reduceAdd, Nat.reduceSub]
  repeat' (first
  | with_reducible first | refine aw_seq ?_ | refine aw_block ?_ | refine aw_skip ?_ | refine aw_exit ?_
  | with_reducible first | refine aw_ret ?_ | refine thenA_n ?_ | refine thenA_r ?_ | refine thenA_x ?_ | refine blockA_n ?_ | refine blockA_r ?_ | refine blockA_e ?_ | refine ends_r ?_ | refine aw_reg ?_
  | with_reducible refine al_nil ?_
  | (with_reducible apply al_s hT true
     · first | exact gchk_none rfl | simp only [go_sem, *]
     · simp only [go_sem, *]; first | done | with_reducible rfl)
  )
  refine aw_loop [2, 3, 6, 7, 8, 9, 10, 11, 12, 13, 14, 15, 16, 17] (fun n S => ∃ i : Nat, n = f.length - i ∧ i ≤ f.length ∧ AheadP (· == x) f i ∧ S = [.lst false 1 (f.map encInt), .int .i64 x, .undef, .undef, .bool false, .int .i64 i, .undef, .undef, .undef, .undef, .undef, .undef, .undef, .undef, .undef, .undef, .undef, .undef]) f.length ?_ ?_
  · refine ⟨0, by simp, by omega, .zero, ?_⟩
    simp only [clr, go_sem]
    first | done | rfl
  · rintro n S ⟨i, hn, hi, ha, rfl⟩
    have hwi : IntKind.i64.wrap ((i : Int) + 1) = ((i + 1 : Nat) : Int) := by rw [wrap_small] <;> omega
    by_cases hlt : i < f.length
    · have hd : decide ((i : Int) < (f.length : Int)) = true := by simp [hlt]
      obtain ⟨y, hy⟩ : ∃ y, f[i]? = some y := ⟨f[i], by simp [hlt]⟩
      repeat' (first
      | with_reducible first | refine aw_seq ?_ | refine aw_block ?_ | refine aw_skip ?_ | refine aw_exit ?_
      | with_reducible first | refine aw_ret ?_ | refine thenA_n ?_ | refine thenA_r ?_ | refine thenA_x ?_ | refine blockA_n ?_ | refine blockA_r ?_ | refine blockA_e ?_ | refine ends_r ?_ | refine aw_reg ?_
      | with_reducible refine al_nil ?_
      | (with_reducible apply aw_cond
         · simp only [go_sem, *]; with_reducible rfl
         all_goals (intro h; try simp only [Bool.not_eq_true', Bool.not_eq_false', reduceCtorEq] at h))
      | (with_reducible apply al_s hT true
         · first | exact gchk_none rfl | simp only [go_sem, *]
         · simp only [go_sem, encInt, *]; first | done | with_reducible rfl)
      )
      · (simp only [go_sem, *])
        rw [any_at hy h]
      · refine ⟨f.length - (i + 1), by omega, i + 1, rfl, by omega, ha.succ hy h, ?_⟩
        simp only [clr, go_sem]
    · have hd : decide ((i : Int) < (f.length : Int)) = false := by simp; omega
      repeat' (first
      | with_reducible first | refine aw_seq ?_ | refine aw_block ?_ | refine aw_skip ?_ | refine aw_exit ?_
      | with_reducible first | refine aw_ret ?_ | refine thenA_n ?_ | refine thenA_r ?_ | refine thenA_x ?_ | refine blockA_n ?_ | refine blockA_r ?_ | refine blockA_e ?_ | refine ends_r ?_ | refine aw_reg ?_
      | with_reducible refine al_nil ?_
      | (with_reducible apply aw_cond
         · simp only [go_sem, *]; with_reducible rfl
         all_goals (intro h; try simp only [Bool.not_eq_true', Bool.not_eq_false', reduceCtorEq] at h))
      | (with_reducible apply al_s hT true
         · first | exact gchk_none rfl | simp only [go_sem, *]
         · simp only [go_sem, *]; first | done | with_reducible rfl)
      )
      (simp only [go_sem, *])
      rw [ha.any (by omega)]
theorem c_slices_Index_int_int (f : List Int) (x : Int) (hl : f.length < 4611686018427387904) : Sound P 74 [.lst false 1 (f.map encInt), .int .i64 x] (.int .i64 (idxP (fun y => x == y) f)) := by
  refine sound_body hT Try.func74 rfl ?_
  rw [Try.results74, Try.ntmps74]
  simp only [frame, List.length_cons, List.length_nil, List.replicate, List.cons_append, List.nil_append, Nat.reduceAdd, Nat.reduceSub]
  repeat' (first
  | with_reducible first | refine aw_seq ?_ | refine aw_block ?_ | refine aw_skip ?_ | refine aw_exit ?_
  | with_reducible first | refine aw_ret ?_ | refine thenA_n ?_ | refine thenA_r ?_ | refine thenA_x ?_ | refine blockA_n ?_ | refine blockA_r ?_ | refine blockA_e ?_ | refine ends_r ?_ | refine aw_reg ?_
  | with_reducible refine al_nil ?_
  | (with_reducible apply al_s hT true
     · first | exact gchk_none rfl | simp only [go_sem, *]
     · simp only [go_sem, *]; first | done | with_reducible rfl)
  )
  refine aw_loop [2, 3, 5, 9, 10, 11, 12, 13, 14, 15, 16, 17, 18] (fun n S => ∃ i : Nat, n = f.length - i ∧ i ≤ f.length ∧ AheadP (fun y => x == y) f i ∧ S = [.lst false 1 (f.map encInt), .int .i64 x, .undef, .undef, .int .i64 0, .undef, .lst false 1 (f.map encInt), .int .i64 f.length, .int .i64 i, .undef, .undef, .undef, .undef, .undef, .undef, .undef, .undef, .undef, .undef]) f.length ?_ ?_
  · refine ⟨0, by simp, by omega, .zero, ?_⟩
    simp only [clr, go_sem]
    first | done | rfl
  · rintro n S ⟨i, hn, hi, ha, rfl⟩
    have hwi : IntKind.i64.wrap ((i : Int) + 1) = ((i + 1 : Nat) : Int) := by rw [wrap_small] <;> omega
    by_cases hlt : i < f.length
    · have hd : decide ((i : Int) < (f.length : Int)) = true := by simp [hlt]
      obtain ⟨y, hy⟩ : ∃ y, f[i]? = some y := ⟨f[i], by simp [hlt]⟩
      repeat' (first
      | with_reducible first | refine aw_seq ?_ | refine aw_block ?_ | refine aw_skip ?_ | refine aw_exit ?_
      | with_reducible first | refine aw_ret ?_ | refine thenA_n ?_ | refine thenA_r ?_ | refine thenA_x ?_ | refine blockA_n ?_ | refine blockA_r ?_ | refine blockA_e ?_ | refine ends_r ?_ | refine aw_reg ?_
      | with_reducible refine al_nil ?_
      | (with_reducible apply aw_cond
         · simp only [go_sem, *]; with_reducible rfl
         all_goals (intro h; try simp only [Bool.not_eq_true', Bool.not_eq_false', reduceCtorEq] at h))
      | (with_reducible apply al_s hT true
         · first | exact gchk_none rfl | simp only [go_sem, *]
         · simp only [go_sem, encInt, *]; first | done | with_reducible rfl)
      )
      · (simp only [go_sem, *])
        rw [idxP_some hy h ha]
      · refine ⟨f.length - (i + 1), by omega, i + 1, rfl, by omega, ha.succ hy h, ?_⟩
        simp only [clr, go_sem]
    · have hd : decide ((i : Int) < (f.length : Int)) = false := by simp; omega
      repeat' (first
      | with_reducible first | refine aw_seq ?_ | refine aw_block ?_ | refine aw_skip ?_ | refine aw_exit ?_
      | with_reducible first | refine aw_ret ?_ | refine thenA_n ?_ | refine thenA_r ?_ | refine thenA_x ?_ | refine blockA_n ?_ | refine blockA_r ?_ | refine blockA_e ?_ | refine ends_r ?_ | refine aw_reg ?_
      | with_reducible refine al_nil ?_
      | (with_reducible apply aw_cond
         · simp only [go_sem, *]; with_reducible rfl
         all_goals (intro h; try simp only [Bool.not_eq_true', Bool.not_eq_false', reduceCtorEq] at h))
      | (with_reducible apply al_s hT true
         · first | exact gchk_none rfl | simp only [go_sem, *]
         · simp only [go_sem, *]; first | done | with_reducible rfl)
      )
      (simp only [go_sem, *])
      rw [idxP_none (i := i) (by omega) ha]
theorem any_flip (f : List Int) (x : Int) : f.any (fun y => x == y) = f.any (· == x) := by
  congr 1; funext y; exact Bool.beq_comm
theorem c_slices_Contains_int_int (f : List Int) (x : Int) (hl : f.length < 4611686018427387904) : Sound P 49 [.lst false 1 (f.map encInt), .int .i64 x] (.bool (f.any (· == x))) := by
  refine sound_body hT Try.func49 rfl ?_
  rw [Try.results49, Try.ntmps49]
  simp only [frame, List.length_cons, List.length_nil, List.replicate, List.cons_append, List.nil_append, Nat.reduceAdd, Nat.reduceSub]
  repeat' (first
  | with_reducible refine aw_seq ?_
  | with_reducible first | refine aw_ret ?_ | refine thenA_n ?_ | refine ends_r ?_ | refine aw_reg ?_
  | with_reducible refine al_nil ?_
  | (with_reducible apply al_call (f := 74)
     · first | exact gchk_none rfl | simp only [go_sem, *]
     · rfl
     · exact Try.call74
     · simp only [go_sem, *]; with_reducible rfl
     · simp only [go_sem, *]
     · first | assumption | ((with_reducible apply c_slices_Index_int_int) <;> first | assumption | rfl)
     · simp only [go_sem]; with_reducible rfl)
  | (with_reducible apply al_s hT true
     · first | exact gchk_none rfl | simp only [go_sem, *]
     · simp only [go_sem, *]; first | done | with_reducible rfl)
  )
  (simp only [go_sem, *])
  rw [idxP_ge, any_flip]
theorem c_slices_Clone_int_int (f : List Int) (hf : f.length ≤ 4194304) : Sound P 57 [.lst false 1 (f.map encInt)] (.lst true 1 (f.map encInt)) := by
  refine sound_body hT Try.func57 rfl ?_
  rw [Try.results57, Try.ntmps57]
  simp only [frame, List.length_cons, List.length_nil, List.replicate, List.cons_append, List.nil_append, Nat.reduceAdd, Nat.reduceSub]
  repeat' (first
  | with_reducible first | refine aw_seq ?_ | refine aw_skip ?_
  | with_reducible first | refine aw_ret ?_ | refine thenA_n ?_ | refine thenA_r ?_ | refine ends_r ?_ | refine aw_reg ?_
  | with_reducible refine al_nil ?_
  | (with_reducible apply aw_cond
     · simp only [go_sem, *]; with_reducible rfl
     all_goals (intro h; try simp only [Bool.not_eq_true', Bool.not_eq_false', reduceCtorEq] at h))
  | (with_reducible apply al_append hT
     · exact gchk_none rfl
     · rfl
     · simp only [go_sem]; first | done | with_reducible rfl
     · simp only [go_sem]
     · simp only [go_sem]; first | done | with_reducible rfl
     · simp only [go_sem]
     · simp only [go_sem, *]; with_reducible rfl
     · simp only [go_sem, *]; with_reducible rfl
     · simp only [go_sem, *]
     · simp only [go_sem, *]; with_reducible rfl
     · simp only [go_sem, *]; with_reducible rfl
     · simp only [go_sem, *]
     · simp only [go_sem]; first | done | omega
     · simp only [go_sem]; first | done | omega
     · simp only [go_sem]; with_reducible rfl)
  | (with_reducible apply al_bslice hT
     · exact gchk_none rfl
     · rfl
     · simp only [go_sem]; first | done | with_reducible rfl
     · simp only [go_sem]
     · simp only [go_sem]; first | done | with_reducible rfl
     · simp only [go_sem]
     · simp only [go_sem]; first | done | omega
     · simp only [go_sem, *]; with_reducible rfl
     · simp only [go_sem, *]; with_reducible rfl
     · simp only [go_sem]
     · simp only [go_sem]; with_reducible rfl)
  | (with_reducible apply al_isnil hT
     · exact gchk_none rfl
     · rfl
     · simp only [go_sem]; first | done | with_reducible rfl
     · simp only [go_sem, *]; with_reducible rfl
     · simp only [go_sem, *]; with_reducible rfl
     intro b hb
     with_reducible apply al_cast
     · simp only [go_sem]; with_reducible rfl)
  | (with_reducible apply al_anil hT
     · exact gchk_none rfl
     · rfl
     · simp only [go_sem]; first | done | with_reducible rfl
     · simp only [go_sem]; with_reducible rfl)
  | (with_reducible apply al_s hT false
     · first | exact gchk_none rfl | simp only [go_sem, *]
     · simp only [go_sem, *]; first | done | with_reducible rfl)
  )
  · have hf0 : f = [] := by
      have : f.length = 0 := by
        by_cases h0 : f.length = 0
        · exact h0
        · have := hb h0; rw [h] at this; cases this
      exact List.eq_nil_of_length_eq_zero this
    subst hf0
    (simp only [go_sem, *])
    first | done | rfl
  · (simp only [go_sem, *])
theorem c_spec_l2Copy (f : List Int) (hf : f.length ≤ 4194304) : Sound P 70 [.lst false 1 (f.map encInt)] (.lst true 1 (f.map encInt)) := by
  refine sound_body hT Try.func70 rfl ?_
  rw [Try.results70, Try.ntmps70]
  simp only [frame, List.length_cons, List.length_nil, List.replicate, List.cons_append, List.nil_append, Nat.reduceAdd, Nat.reduceSub]
  repeat' (first
  | with_reducible refine aw_seq ?_
  | with_reducible first | refine aw_ret ?_ | refine thenA_n ?_ | refine ends_r ?_ | refine aw_reg ?_
  | with_reducible refine al_nil ?_
  | (with_reducible apply al_append hT
     · exact gchk_none rfl
     · rfl
     · simp only [go_sem]; first | done | with_reducible rfl
     · simp only [go_sem]
     · simp only [go_sem]; first | done | with_reducible rfl
     · simp only [go_sem]
     · simp only [go_sem, *]; with_reducible rfl
     · simp only [go_sem, *]; with_reducible rfl
     · simp only [go_sem, *]
     · simp only [go_sem, *]; with_reducible rfl
     · simp only [go_sem, *]; with_reducible rfl
     · simp only [go_sem, *]
     · simp only [go_sem]; first | done | omega
     · simp only [go_sem]; first | done | omega
     · simp only [go_sem]; with_reducible rfl)
  | (with_reducible apply al_bslice hT
     · exact gchk_none rfl
     · rfl
     · simp only [go_sem]; first | done | with_reducible rfl
     · simp only [go_sem]
     · simp only [go_sem]; first | done | with_reducible rfl
     · simp only [go_sem]
     · simp only [go_sem]; first | done | omega
     · simp only [go_sem, *]; with_reducible rfl
     · simp only [go_sem, *]; with_reducible rfl
     · simp only [go_sem]
     · simp only [go_sem]; with_reducible rfl)
  | (with_reducible apply al_anil hT
     · exact gchk_none rfl
     · rfl
     · simp only [go_sem]; first | done | with_reducible rfl
     · simp only [go_sem]; with_reducible rfl)
  | (with_reducible apply al_s hT false
     · first | exact gchk_none rfl | simp only [go_sem, *]
     · simp only [go_sem, *]; first | done | with_reducible rfl)
  )
  all_goals (simp only [go_sem, *])
end Go.Proofs.Ytedjmclcjkcooaa
