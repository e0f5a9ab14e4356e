/- Contracts: the parts of a ring. -/
import Derived.Test.YtcgkejggkenecaaFnY
import Derived.Test.YtcgkejggkenecaaFnD
import Derived.Test.YtcgkejggkenecaaFnXMsg
import Derived.Test.YtcgkejggkenecaaFnXSub
import Derived.Test.YtcgkejggkenecaaGlRing
namespace Go.Proofs.Ytcgkejggkenecaa
open Go Go.RowKit Go.Bv
set_option linter.unusedSimpArgs false
set_option linter.unusedVariables false
set_option maxRecDepth 4000
set_option maxHeartbeats 1000000

/-- Where a subscription stands; -1: nowhere. -/
def atI (f : List SubV) (id : Int) : Int := idxP (fun s => s.id == id) f
theorem c_spec_l9At (r : RingV) (id : Int) {u : AV} (hu : u = encRing false r) (hr : okRing r) : Sound P 65 [u, .int .i64 id] (.int .i64 (atI r.subs id)) := by
  subst hu
  have hl : r.subs.length < 4611686018427387904 := hr.2.1.1
  refine sound_body hT Go.Proofs.Try.func65 rfl ?_
  rw [Go.Proofs.Try.results65, Go.Proofs.Try.ntmps65]
  simp only [frame, List.length_cons, List.length_nil, List.replicate, List.cons_append, List.nil_append, Nat.reduceAdd, Nat.reduceSub]
  repeat' (first
  | with_reducible first | refine aw_seq ?_ | refine aw_block ?_ | refine aw_skip ?_ | refine aw_exit ?_
  | with_reducible first | refine aw_ret ?_ | refine thenA_n ?_ | refine thenA_r ?_ | refine thenA_x ?_ | refine blockA_n ?_ | refine blockA_r ?_ | refine blockA_e ?_ | refine blockA_x (by decide) ?_ | refine ends_r ?_ | refine ends_n ?_ | refine ends_rM ?_ | refine ends_nM ?_ | refine aw_reg ?_
  | with_reducible refine al_nil ?_
  | (with_reducible apply al_s hT true
     · first | exact gchk_none rfl | simp only [go_sem, *]
     · simp only [go_sem, encRing, *]; first | done | with_reducible rfl)
  )
  refine aw_loop [3, 6, 7, 8, 9, 10, 11, 12, 13, 14, 15, 16, 17, 18, 19, 20, 21] (fun n S => ∃ i : Nat, n = r.subs.length - i ∧ i ≤ r.subs.length ∧ AheadP (fun s => s.id == id) r.subs i ∧ S = [encRing false r, .int .i64 id, .box (encRing false r), .undef, .int .i64 0, .int .i64 i, .undef, .undef, .undef, .undef, .undef, .undef, .undef, .undef, .undef, .undef, .undef, .undef, .undef, .undef, .undef, .undef]) r.subs.length ?_ ?_
  · refine ⟨0, by simp, by omega, .zero, ?_⟩
    simp only [clr, go_sem]
    first | done | rfl
  · rintro n S ⟨i, hn, hi, ha, rfl⟩
    have hwi : IntKind.i64.wrap ((i : Int) + 1) = ((i + 1 : Nat) : Int) := by rw [wrap_small] <;> omega
    by_cases hlt : i < r.subs.length
    · have hd : decide ((i : Int) < (r.subs.length : Int)) = true := by simp [hlt]
      obtain ⟨y, hy⟩ : ∃ y, r.subs[i]? = some y := ⟨r.subs[i], by simp [hlt]⟩
      repeat' (first
      | with_reducible first | refine aw_seq ?_ | refine aw_block ?_ | refine aw_skip ?_ | refine aw_exit ?_
      | with_reducible first | refine aw_ret ?_ | refine thenA_n ?_ | refine thenA_r ?_ | refine thenA_x ?_ | refine blockA_n ?_ | refine blockA_r ?_ | refine blockA_e ?_ | refine blockA_x (by decide) ?_ | refine ends_r ?_ | refine ends_n ?_ | refine ends_rM ?_ | refine ends_nM ?_ | refine aw_reg ?_
      | with_reducible refine al_nil ?_
      | (with_reducible apply aw_cond
         · simp only [go_sem, *]; with_reducible rfl
         all_goals (intro h; try simp only [Bool.not_eq_true', Bool.not_eq_false', reduceCtorEq] at h))
      | (with_reducible apply al_s hT true
         · first | exact gchk_none rfl | simp only [go_sem, *]
         · simp only [go_sem, encRing, encSub, *]; first | done | with_reducible rfl)
      )
      · (simp only [go_sem, *])
        rw [atI, idxP_some hy h ha]
      · refine ⟨r.subs.length - (i + 1), by omega, i + 1, rfl, by omega, ha.succ hy h, ?_⟩
        simp only [clr, go_sem]
        first | done | rfl
    · have hd : decide ((i : Int) < (r.subs.length : Int)) = false := by simp; omega
      repeat' (first
      | with_reducible first | refine aw_seq ?_ | refine aw_block ?_ | refine aw_skip ?_ | refine aw_exit ?_
      | with_reducible first | refine aw_ret ?_ | refine thenA_n ?_ | refine thenA_r ?_ | refine thenA_x ?_ | refine blockA_n ?_ | refine blockA_r ?_ | refine blockA_e ?_ | refine blockA_x (by decide) ?_ | refine ends_r ?_ | refine ends_n ?_ | refine ends_rM ?_ | refine ends_nM ?_ | refine aw_reg ?_
      | with_reducible refine al_nil ?_
      | (with_reducible apply aw_cond
         · simp only [go_sem, *]; with_reducible rfl
         all_goals (intro h; try simp only [Bool.not_eq_true', Bool.not_eq_false', reduceCtorEq] at h))
      | (with_reducible apply al_s hT true
         · first | exact gchk_none rfl | simp only [go_sem, *]
         · simp only [go_sem, encRing, *]; first | done | with_reducible rfl)
      )
      (simp only [go_sem, *])
      rw [atI, idxP_none (i := i) (by omega) ha]
theorem c_subAt_clo (s : SubV) (id : Int) : Sound P 116 [encSub false s, .ip (.int .i64 id)] (.bool (s.id == id)) := by
  refine sound_body hT Go.Proofs.Try.func116 rfl ?_
  rw [Go.Proofs.Try.results116, Go.Proofs.Try.ntmps116]
  simp only [frame, List.length_cons, List.length_nil, List.replicate, List.cons_append, List.nil_append, Nat.reduceAdd, Nat.reduceSub]
  repeat' (first
  | with_reducible first | refine aw_seq ?_ | refine aw_block ?_ | refine aw_skip ?_ | refine aw_exit ?_
  | with_reducible first | refine aw_ret ?_ | refine thenA_n ?_ | refine thenA_r ?_ | refine thenA_x ?_ | refine blockA_n ?_ | refine blockA_r ?_ | refine blockA_e ?_ | refine blockA_x (by decide) ?_ | refine ends_r ?_ | refine ends_n ?_ | refine ends_rM ?_ | refine ends_nM ?_ | refine aw_reg ?_
  | with_reducible refine al_nil ?_
  | (with_reducible apply al_s hT true
     · first | exact gchk_none rfl | simp only [go_sem, *]
     · simp only [go_sem, encSub, *]; first | done | with_reducible rfl)
  )
  all_goals (simp only [go_sem, *])
theorem c_impl_subAt (r : RingV) (id : Int) {u : AV} (hu : u = encRing false r) (hr : okRing r) : Sound P 80 [u, .int .i64 id] (.int .i64 (atI r.subs id)) := by
  subst hu
  have hl : r.subs.length < 4611686018427387904 := hr.2.1.1
  have hp : ∀ x ∈ r.subs, Sound P 116 (encSub false x :: [.ip (.int .i64 id)]) (.bool ((fun s : SubV => s.id == id) x)) := fun x _ => c_subAt_clo x id
  have hg := Go.Proofs.Try.call116
  have hus : ipsA [.ip (.int .i64 id)] = true := rfl
  have hc := c_slices_IndexFunc_impl_Sub_impl_Sub r.subs _ hp hg hus hl
  clear hp hg hus
  refine sound_body hT Go.Proofs.Try.func80 rfl ?_
  rw [Go.Proofs.Try.results80, Go.Proofs.Try.ntmps80]
  simp only [frame, List.length_cons, List.length_nil, List.replicate, List.cons_append, List.nil_append, Nat.reduceAdd, Nat.reduceSub]
  repeat' (first
  | with_reducible first | refine aw_seq ?_ | refine aw_block ?_ | refine aw_skip ?_ | refine aw_exit ?_
  | with_reducible first | refine aw_ret ?_ | refine thenA_n ?_ | refine thenA_r ?_ | refine thenA_x ?_ | refine blockA_n ?_ | refine blockA_r ?_ | refine blockA_e ?_ | refine blockA_x (by decide) ?_ | refine ends_r ?_ | refine ends_n ?_ | refine ends_rM ?_ | refine ends_nM ?_ | refine aw_reg ?_
  | with_reducible refine al_nil ?_
  | (with_reducible apply al_snap (f := 115)
     · first | exact gchk_none rfl | simp only [go_sem, *]
     · rfl
     · exact Go.Proofs.Try.call115
     · simp only [go_sem, encRing, *]; with_reducible rfl
     · simp only [go_sem, encRing, *]; with_reducible rfl
     · first | assumption | ((with_reducible apply c_slices_IndexFunc_impl_Sub_impl_Sub) <;> first | assumption | rfl)
     · simp only [go_sem, *]
     · simp only [go_sem]; with_reducible rfl)
  | (with_reducible apply al_s hT true
     · first | exact gchk_none rfl | simp only [go_sem, *]
     · simp only [go_sem, encRing, *]; first | done | with_reducible rfl)
  )
  all_goals ((simp only [go_sem, *]); first | done | rfl)

/-- The least cursor of the first, or the number sent. -/
def leastI (f : List SubV) (l : Int) : Int := f.foldl (fun l s => if s.cursor < l then s.cursor else l) l
theorem leastI_succ {f : List SubV} {i : Nat} {s : SubV} (h : f[i]? = some s) (l : Int) : leastI (f.take (i + 1)) l = if s.cursor < leastI (f.take i) l then s.cursor else leastI (f.take i) l := by
  unfold leastI
  rw [List.take_add_one, h, Option.toList_some, List.foldl_append]; rfl
/-- The oldest number that is kept. -/
def oldestI (r : RingV) : Int := if leastI r.subs r.sent > (if 0 > r.sent - r.cap then 0 else r.sent - r.cap) then leastI r.subs r.sent else (if 0 > r.sent - r.cap then 0 else r.sent - r.cap)
theorem c_impl_oldest (r : RingV) {u : AV} (hu : u = encRing false r) (hr : okRing r) (h1 : -9223372036854775808 ≤ r.sent - r.cap) (h2 : r.sent - r.cap ≤ 9223372036854775807) : Sound P 76 [u] (.int .i64 (oldestI r)) := by
  subst hu
  have hl : r.subs.length < 4611686018427387904 := hr.2.1.1
  have hwc : IntKind.i64.wrap (r.sent - r.cap) = r.sent - r.cap := by rw [wrap_small] <;> omega
  refine sound_body hT Go.Proofs.Try.func76 rfl ?_
  rw [Go.Proofs.Try.results76, Go.Proofs.Try.ntmps76]
  simp only [frame, List.length_cons, List.length_nil, List.replicate, List.cons_append, List.nil_append, Nat.reduceAdd, Nat.reduceSub]
  repeat' (first
  | with_reducible first | refine aw_seq ?_ | refine aw_block ?_ | refine aw_skip ?_ | refine aw_exit ?_
  | with_reducible first | refine aw_ret ?_ | refine thenA_n ?_ | refine thenA_r ?_ | refine thenA_x ?_ | refine blockA_n ?_ | refine blockA_r ?_ | refine blockA_e ?_ | refine blockA_x (by decide) ?_ | refine ends_r ?_ | refine ends_n ?_ | refine ends_rM ?_ | refine ends_nM ?_ | refine aw_reg ?_
  | with_reducible refine al_nil ?_
  | (with_reducible apply al_s hT true
     · first | exact gchk_none rfl | simp only [go_sem, *]
     · simp only [go_sem, encRing, *]; first | done | with_reducible rfl)
  )
  refine aw_loop [4, 5, 6, 7, 8, 12, 13, 14, 15, 16, 17, 18, 19, 20, 21, 22, 23, 24, 25, 26] (fun n S => ∃ i : Nat, n = r.subs.length - i ∧ i ≤ r.subs.length ∧ S = [encRing false r, .box (encRing false r), .int .i64 0, .int .i64 (leastI (r.subs.take i) r.sent), .undef, .undef, .undef, .undef, .undef, .lst false 7 (r.subs.map (encSub false)), .int .i64 r.subs.length, .int .i64 i, .undef, .undef, .undef, .undef, .undef, .undef, .undef, .undef, .undef, .undef, .undef, .undef, .undef, .undef, .undef]) r.subs.length ?_ ?_
  · refine ⟨0, by simp, by omega, ?_⟩
    simp only [clr, go_sem]
    first | done | rfl
  · rintro n S ⟨i, hn, hi, rfl⟩
    have hwi : IntKind.i64.wrap ((i : Int) + 1) = ((i + 1 : Nat) : Int) := by rw [wrap_small] <;> omega
    by_cases hlt : i < r.subs.length
    · have hd : decide ((i : Int) < (r.subs.length : Int)) = true := by simp [hlt]
      obtain ⟨y, hy⟩ : ∃ y, r.subs[i]? = some y := ⟨r.subs[i], by simp [hlt]⟩
      have hs := leastI_succ hy r.sent
      repeat' (first
      | with_reducible first | refine aw_seq ?_ | refine aw_block ?_ | refine aw_skip ?_ | refine aw_exit ?_
      | with_reducible first | refine aw_ret ?_ | refine thenA_n ?_ | refine thenA_r ?_ | refine thenA_x ?_ | refine blockA_n ?_ | refine blockA_r ?_ | refine blockA_e ?_ | refine blockA_x (by decide) ?_ | refine ends_r ?_ | refine ends_n ?_ | refine ends_rM ?_ | refine ends_nM ?_ | refine aw_reg ?_
      | with_reducible refine al_nil ?_
      | (with_reducible apply aw_cond
         · simp only [go_sem, *]; with_reducible rfl
         all_goals (intro h; try simp only [Bool.not_eq_true', Bool.not_eq_false', reduceCtorEq] at h))
      | (with_reducible apply al_s hT true
         · first | exact gchk_none rfl | simp only [go_sem, *]
         · simp only [go_sem, encRing, encSub, *]; first | done | with_reducible rfl)
      )
      all_goals (
        refine ⟨r.subs.length - (i + 1), by omega, i + 1, rfl, by omega, ?_⟩
        rw [hs]
        simp only [clr, go_sem]
        first | done | rfl)
    · have hd : decide ((i : Int) < (r.subs.length : Int)) = false := by simp; omega
      have ht : r.subs.take i = r.subs := List.take_of_length_le (by omega)
      rw [ht]
      clear ht
      repeat' (first
      | with_reducible first | refine aw_seq ?_ | refine aw_block ?_ | refine aw_skip ?_ | refine aw_exit ?_
      | with_reducible first | refine aw_ret ?_ | refine thenA_n ?_ | refine thenA_r ?_ | refine thenA_x ?_ | refine blockA_n ?_ | refine blockA_r ?_ | refine blockA_e ?_ | refine blockA_x (by decide) ?_ | refine ends_r ?_ | refine ends_n ?_ | refine ends_rM ?_ | refine ends_nM ?_ | refine aw_reg ?_
      | with_reducible refine al_nil ?_
      | (with_reducible apply aw_cond
         · simp only [go_sem, *]; with_reducible rfl
         all_goals (intro h; try simp only [Bool.not_eq_true', Bool.not_eq_false', reduceCtorEq] at h))
      | (with_reducible apply al_s hT true
         · first | exact gchk_none rfl | simp only [go_sem, *]
         · simp only [go_sem, encRing, *]; first | done | with_reducible rfl)
      )
      all_goals ((simp only [go_sem, *]); first | done | rfl)
theorem c_spec_l9Oldest (r : RingV) {u : AV} (hu : u = encRing false r) (hr : okRing r) (h1 : -9223372036854775808 ≤ r.sent - r.cap) (h2 : r.sent - r.cap ≤ 9223372036854775807) : Sound P 62 [u] (.int .i64 (oldestI r)) := by
  subst hu
  have hl : r.subs.length < 4611686018427387904 := hr.2.1.1
  have hwc : IntKind.i64.wrap (r.sent - r.cap) = r.sent - r.cap := by rw [wrap_small] <;> omega
  refine sound_body hT Go.Proofs.Try.func62 rfl ?_
  rw [Go.Proofs.Try.results62, Go.Proofs.Try.ntmps62]
  simp only [frame, List.length_cons, List.length_nil, List.replicate, List.cons_append, List.nil_append, Nat.reduceAdd, Nat.reduceSub]
  repeat' (first
  | with_reducible first | refine aw_seq ?_ | refine aw_block ?_ | refine aw_skip ?_ | refine aw_exit ?_
  | with_reducible first | refine aw_ret ?_ | refine thenA_n ?_ | refine thenA_r ?_ | refine thenA_x ?_ | refine blockA_n ?_ | refine blockA_r ?_ | refine blockA_e ?_ | refine blockA_x (by decide) ?_ | refine ends_r ?_ | refine ends_n ?_ | refine ends_rM ?_ | refine ends_nM ?_ | refine aw_reg ?_
  | with_reducible refine al_nil ?_
  | (with_reducible apply al_s hT true
     · first | exact gchk_none rfl | simp only [go_sem, *]
     · simp only [go_sem, encRing, *]; first | done | with_reducible rfl)
  )
  refine aw_loop [5, 6, 7, 8, 9, 10, 11, 12, 13, 14, 15, 16, 17, 18, 19, 20, 21, 22, 23, 24, 25, 26, 27, 28, 29, 30, 31, 32, 33, 34, 35, 36, 37, 38, 39, 40, 41, 42] (fun n S => ∃ i : Nat, n = r.subs.length - i ∧ i ≤ r.subs.length ∧ S = [encRing false r, .box (encRing false r), .int .i64 0, .int .i64 (leastI (r.subs.take i) r.sent), .int .i64 i, .undef, .undef, .undef, .undef, .undef, .undef, .undef, .undef, .undef, .undef, .undef, .undef, .undef, .undef, .undef, .undef, .undef, .undef, .undef, .undef, .undef, .undef, .undef, .undef, .undef, .undef, .undef, .undef, .undef, .undef, .undef, .undef, .undef, .undef, .undef, .undef, .undef, .undef]) r.subs.length ?_ ?_
  · refine ⟨0, by simp, by omega, ?_⟩
    simp only [clr, go_sem]
    first | done | rfl
  · rintro n S ⟨i, hn, hi, rfl⟩
    have hwi : IntKind.i64.wrap ((i : Int) + 1) = ((i + 1 : Nat) : Int) := by rw [wrap_small] <;> omega
    by_cases hlt : i < r.subs.length
    · have hd : decide ((i : Int) < (r.subs.length : Int)) = true := by simp [hlt]
      obtain ⟨y, hy⟩ : ∃ y, r.subs[i]? = some y := ⟨r.subs[i], by simp [hlt]⟩
      have hs := leastI_succ hy r.sent
      repeat' (first
      | with_reducible first | refine aw_seq ?_ | refine aw_block ?_ | refine aw_skip ?_ | refine aw_exit ?_
      | with_reducible first | refine aw_ret ?_ | refine thenA_n ?_ | refine thenA_r ?_ | refine thenA_x ?_ | refine blockA_n ?_ | refine blockA_r ?_ | refine blockA_e ?_ | refine blockA_x (by decide) ?_ | refine ends_r ?_ | refine ends_n ?_ | refine ends_rM ?_ | refine ends_nM ?_ | refine aw_reg ?_
      | with_reducible refine al_nil ?_
      | (with_reducible apply aw_cond
         · simp only [go_sem, *]; with_reducible rfl
         all_goals (intro h; try simp only [Bool.not_eq_true', Bool.not_eq_false', reduceCtorEq] at h))
      | (with_reducible apply al_s hT true
         · first | exact gchk_none rfl | simp only [go_sem, *]
         · simp only [go_sem, encRing, encSub, *]; first | done | with_reducible rfl)
      )
      all_goals (
        refine ⟨r.subs.length - (i + 1), by omega, i + 1, rfl, by omega, ?_⟩
        rw [hs]
        simp only [clr, go_sem]
        simp only [decide_eq_true_eq, decide_eq_false_iff_not] at h
        first | rw [if_pos h] | rw [if_neg h]
        first | done | rfl)
    · have hd : decide ((i : Int) < (r.subs.length : Int)) = false := by simp; omega
      have ht : r.subs.take i = r.subs := List.take_of_length_le (by omega)
      rw [ht]
      clear ht
      repeat' (first
      | with_reducible first | refine aw_seq ?_ | refine aw_block ?_ | refine aw_skip ?_ | refine aw_exit ?_
      | with_reducible first | refine aw_ret ?_ | refine thenA_n ?_ | refine thenA_r ?_ | refine thenA_x ?_ | refine blockA_n ?_ | refine blockA_r ?_ | refine blockA_e ?_ | refine blockA_x (by decide) ?_ | refine ends_r ?_ | refine ends_n ?_ | refine ends_rM ?_ | refine ends_nM ?_ | refine aw_reg ?_
      | with_reducible refine al_nil ?_
      | (with_reducible apply aw_cond
         · simp only [go_sem, *]; with_reducible rfl
         all_goals (intro h; try simp only [Bool.not_eq_true', Bool.not_eq_false', reduceCtorEq] at h))
      | (with_reducible apply al_s hT true
         · first | exact gchk_none rfl | simp only [go_sem, *]
         · simp only [go_sem, encRing, *]; first | done | with_reducible rfl)
      )
      all_goals (
        (simp only [go_sem, *])
        simp only [decide_eq_true_eq, decide_eq_false_iff_not, oldestI, Option.some.injEq, AV.int.injEq, true_and] at *
        (repeat' split) <;> omega)

/-- A subscription that is right, but for its number. -/
def subB (r : RingV) (s : SubV) : Bool :=
  decide (0 ≤ s.start ∧ s.start ≤ s.cursor ∧ s.cursor ≤ r.sent) && filterB s.filter && decide (0 ≤ s.got ∧ s.got ≤ s.cursor - s.start ∧ 0 ≤ s.lost ∧ s.lost ≤ s.cursor - s.start ∧ 0 ≤ s.passed ∧ s.passed ≤ s.cursor - s.start ∧ s.got + s.lost + s.passed = s.cursor - s.start)
theorem c_impl_subOk (r : RingV) (s : SubV) {u v : AV} (hu : u = encRing false r) (hv : v = encSub false s) (hs : okSub s) (hb : r.sent ≤ 1000000000) : Sound P 72 [u, v] (.bool (subB r s)) := by
  subst hu hv
  have hf : s.filter.length < 4611686018427387904 := hs.1
  have ht : ∀ t ∈ s.filter, t.fits := hs.2
  obtain ⟨F, hF⟩ : ∃ F, filterB s.filter = F := ⟨_, rfl⟩
  rcases (by omega : s.start < 0 ∨ (¬ s.start < 0 ∧ s.start > s.cursor) ∨ (¬ s.start < 0 ∧ ¬ s.start > s.cursor ∧ s.cursor > r.sent) ∨ (0 ≤ s.start ∧ s.start ≤ s.cursor ∧ s.cursor ≤ r.sent)) with hc | hc | hc | hc
  · skip
    have g0 : decide (s.start < 0) = true := decide_eq_true (by omega)
    have h6 : subB r s = false := by rw [subB, decide_eq_false (p := 0 ≤ s.start ∧ s.start ≤ s.cursor ∧ s.cursor ≤ r.sent) (by omega), Bool.false_and, Bool.false_and]
    refine sound_body hT Go.Proofs.Try.func72 rfl ?_
    rw [Go.Proofs.Try.results72, Go.Proofs.Try.ntmps72]
    simp only [frame, List.length_cons, List.length_nil, List.replicate, List.cons_append, List.nil_append, Nat.reduceAdd, Nat.reduceSub]
    repeat' (first
    | with_reducible first | refine aw_seq ?_ | refine aw_block ?_ | refine aw_skip ?_ | refine aw_exit ?_
    | with_reducible first | refine aw_ret ?_ | refine thenA_n ?_ | refine thenA_r ?_ | refine thenA_x ?_ | refine blockA_n ?_ | refine blockA_r ?_ | refine blockA_e ?_ | refine blockA_x (by decide) ?_ | refine ends_r ?_ | refine ends_n ?_ | refine ends_rM ?_ | refine ends_nM ?_ | refine aw_reg ?_
    | with_reducible refine al_nil ?_
    | (with_reducible apply aw_cond
       · simp only [go_sem, *]; with_reducible rfl
       all_goals (intro h; try simp only [Bool.not_eq_true', Bool.not_eq_false', reduceCtorEq] at h))
    | (with_reducible apply al_s hT true
       · first | exact gchk_none rfl | simp only [go_sem, *]
       · simp only [go_sem, encRing, encSub, *]; first | done | with_reducible rfl)
    | (with_reducible apply al_skip
       · simp only [go_sem, *]
       · simp only [go_sem]; with_reducible rfl)
    )
    all_goals ((simp only [go_sem, *]); first | done | (simp [h6]; done))
  · skip
    have g0 : decide (s.start < 0) = false := decide_eq_false (by omega)
    have g1 : decide (s.start > s.cursor) = true := decide_eq_true (by omega)
    have h6 : subB r s = false := by rw [subB, decide_eq_false (p := 0 ≤ s.start ∧ s.start ≤ s.cursor ∧ s.cursor ≤ r.sent) (by omega), Bool.false_and, Bool.false_and]
    refine sound_body hT Go.Proofs.Try.func72 rfl ?_
    rw [Go.Proofs.Try.results72, Go.Proofs.Try.ntmps72]
    simp only [frame, List.length_cons, List.length_nil, List.replicate, List.cons_append, List.nil_append, Nat.reduceAdd, Nat.reduceSub]
    repeat' (first
    | with_reducible first | refine aw_seq ?_ | refine aw_block ?_ | refine aw_skip ?_ | refine aw_exit ?_
    | with_reducible first | refine aw_ret ?_ | refine thenA_n ?_ | refine thenA_r ?_ | refine thenA_x ?_ | refine blockA_n ?_ | refine blockA_r ?_ | refine blockA_e ?_ | refine blockA_x (by decide) ?_ | refine ends_r ?_ | refine ends_n ?_ | refine ends_rM ?_ | refine ends_nM ?_ | refine aw_reg ?_
    | with_reducible refine al_nil ?_
    | (with_reducible apply aw_cond
       · simp only [go_sem, *]; with_reducible rfl
       all_goals (intro h; try simp only [Bool.not_eq_true', Bool.not_eq_false', reduceCtorEq] at h))
    | (with_reducible apply al_s hT true
       · first | exact gchk_none rfl | simp only [go_sem, *]
       · simp only [go_sem, encRing, encSub, *]; first | done | with_reducible rfl)
    | (with_reducible apply al_skip
       · simp only [go_sem, *]
       · simp only [go_sem]; with_reducible rfl)
    )
    all_goals ((simp only [go_sem, *]); first | done | (simp [h6]; done))
  · skip
    have g0 : decide (s.start < 0) = false := decide_eq_false (by omega)
    have g1 : decide (s.start > s.cursor) = false := decide_eq_false (by omega)
    have g2 : decide (s.cursor > r.sent) = true := decide_eq_true (by omega)
    have h6 : subB r s = false := by rw [subB, decide_eq_false (p := 0 ≤ s.start ∧ s.start ≤ s.cursor ∧ s.cursor ≤ r.sent) (by omega), Bool.false_and, Bool.false_and]
    refine sound_body hT Go.Proofs.Try.func72 rfl ?_
    rw [Go.Proofs.Try.results72, Go.Proofs.Try.ntmps72]
    simp only [frame, List.length_cons, List.length_nil, List.replicate, List.cons_append, List.nil_append, Nat.reduceAdd, Nat.reduceSub]
    repeat' (first
    | with_reducible first | refine aw_seq ?_ | refine aw_block ?_ | refine aw_skip ?_ | refine aw_exit ?_
    | with_reducible first | refine aw_ret ?_ | refine thenA_n ?_ | refine thenA_r ?_ | refine thenA_x ?_ | refine blockA_n ?_ | refine blockA_r ?_ | refine blockA_e ?_ | refine blockA_x (by decide) ?_ | refine ends_r ?_ | refine ends_n ?_ | refine ends_rM ?_ | refine ends_nM ?_ | refine aw_reg ?_
    | with_reducible refine al_nil ?_
    | (with_reducible apply aw_cond
       · simp only [go_sem, *]; with_reducible rfl
       all_goals (intro h; try simp only [Bool.not_eq_true', Bool.not_eq_false', reduceCtorEq] at h))
    | (with_reducible apply al_s hT true
       · first | exact gchk_none rfl | simp only [go_sem, *]
       · simp only [go_sem, encRing, encSub, *]; first | done | with_reducible rfl)
    | (with_reducible apply al_skip
       · simp only [go_sem, *]
       · simp only [go_sem]; with_reducible rfl)
    )
    all_goals ((simp only [go_sem, *]); first | done | (simp [h6]; done))
  · have hw1 : IntKind.i64.wrap (s.cursor - s.start) = s.cursor - s.start := by rw [wrap_small] <;> omega
    have g0 : decide (s.start < 0) = false := decide_eq_false (by omega)
    have g1 : decide (s.start > s.cursor) = false := decide_eq_false (by omega)
    have g2 : decide (s.cursor > r.sent) = false := decide_eq_false (by omega)
    cases F
    · have h6 : subB r s = false := by rw [subB, hF, Bool.and_false, Bool.false_and]
      refine sound_body hT Go.Proofs.Try.func72 rfl ?_
      rw [Go.Proofs.Try.results72, Go.Proofs.Try.ntmps72]
      simp only [frame, List.length_cons, List.length_nil, List.replicate, List.cons_append, List.nil_append, Nat.reduceAdd, Nat.reduceSub]
      repeat' (first
      | with_reducible first | refine aw_seq ?_ | refine aw_block ?_ | refine aw_skip ?_ | refine aw_exit ?_
      | with_reducible first | refine aw_ret ?_ | refine thenA_n ?_ | refine thenA_r ?_ | refine thenA_x ?_ | refine blockA_n ?_ | refine blockA_r ?_ | refine blockA_e ?_ | refine blockA_x (by decide) ?_ | refine ends_r ?_ | refine ends_n ?_ | refine ends_rM ?_ | refine ends_nM ?_ | refine aw_reg ?_
      | with_reducible refine al_nil ?_
      | (with_reducible apply aw_cond
         · simp only [go_sem, *]; with_reducible rfl
         all_goals (intro h; try simp only [Bool.not_eq_true', Bool.not_eq_false', reduceCtorEq] at h))
      | (with_reducible apply al_call (f := 92)
         · first | exact gchk_none rfl | simp only [go_sem, *]
         · rfl
         · exact Go.Proofs.Try.call92
         · simp only [go_sem, encRing, encSub, *]; with_reducible rfl
         · simp only [go_sem, *]
         · first | assumption | ((with_reducible apply c_impl_FilterOk) <;> first | assumption | rfl)
         · simp only [go_sem]; with_reducible rfl)
      | (with_reducible apply al_s hT true
         · first | exact gchk_none rfl | simp only [go_sem, *]
         · simp only [go_sem, encRing, encSub, *]; first | done | with_reducible rfl)
      )
      all_goals ((simp only [go_sem, *]); first | done | (simp [h6]; done))
    rcases (by omega : ¬ (0 ≤ s.got ∧ s.got ≤ s.cursor - s.start) ∨ ((0 ≤ s.got ∧ s.got ≤ s.cursor - s.start) ∧ ¬ (0 ≤ s.lost ∧ s.lost ≤ s.cursor - s.start)) ∨ ((0 ≤ s.got ∧ s.got ≤ s.cursor - s.start) ∧ (0 ≤ s.lost ∧ s.lost ≤ s.cursor - s.start) ∧ ¬ (0 ≤ s.passed ∧ s.passed ≤ s.cursor - s.start)) ∨ ((0 ≤ s.got ∧ s.got ≤ s.cursor - s.start) ∧ (0 ≤ s.lost ∧ s.lost ≤ s.cursor - s.start) ∧ (0 ≤ s.passed ∧ s.passed ≤ s.cursor - s.start))) with hd | hd | hd | hd
    · skip
      have k0 : (decide (s.got ≥ 0) && decide (s.got ≤ s.cursor - s.start)) = false := by rw [Bool.and_eq_false_iff]; simp only [decide_eq_false_iff_not, ge_iff_le]; omega
      have h6 : subB r s = false := by rw [subB, decide_eq_false (p := 0 ≤ s.got ∧ s.got ≤ s.cursor - s.start ∧ 0 ≤ s.lost ∧ s.lost ≤ s.cursor - s.start ∧ 0 ≤ s.passed ∧ s.passed ≤ s.cursor - s.start ∧ s.got + s.lost + s.passed = s.cursor - s.start) (by omega), Bool.and_false]
      refine sound_body hT Go.Proofs.Try.func72 rfl ?_
      rw [Go.Proofs.Try.results72, Go.Proofs.Try.ntmps72]
      simp only [frame, List.length_cons, List.length_nil, List.replicate, List.cons_append, List.nil_append, Nat.reduceAdd, Nat.reduceSub]
      repeat' (first
      | with_reducible first | refine aw_seq ?_ | refine aw_block ?_ | refine aw_skip ?_ | refine aw_exit ?_
      | with_reducible first | refine aw_ret ?_ | refine thenA_n ?_ | refine thenA_r ?_ | refine thenA_x ?_ | refine blockA_n ?_ | refine blockA_r ?_ | refine blockA_e ?_ | refine blockA_x (by decide) ?_ | refine ends_r ?_ | refine ends_n ?_ | refine ends_rM ?_ | refine ends_nM ?_ | refine aw_reg ?_
      | with_reducible refine al_nil ?_
      | (with_reducible apply aw_cond
         · simp only [go_sem, *]; with_reducible rfl
         all_goals (intro h; try simp only [Bool.not_eq_true', Bool.not_eq_false', reduceCtorEq] at h))
      | (with_reducible apply al_call (f := 92)
         · first | exact gchk_none rfl | simp only [go_sem, *]
         · rfl
         · exact Go.Proofs.Try.call92
         · simp only [go_sem, encRing, encSub, *]; with_reducible rfl
         · simp only [go_sem, *]
         · first | assumption | ((with_reducible apply c_impl_FilterOk) <;> first | assumption | rfl)
         · simp only [go_sem]; with_reducible rfl)
      | (with_reducible apply al_call (f := 70)
         · first | exact gchk_none rfl | simp only [go_sem, *]
         · rfl
         · exact Go.Proofs.Try.call70
         · simp only [go_sem, encRing, encSub, *]; with_reducible rfl
         · simp only [go_sem, *]
         · first | assumption | ((with_reducible apply c_impl_within) <;> first | assumption | rfl)
         · simp only [go_sem]; with_reducible rfl)
      | (with_reducible apply al_s hT true
         · first | exact gchk_none rfl | simp only [go_sem, *]
         · simp only [go_sem, encRing, encSub, *]; first | done | with_reducible rfl)
      | (with_reducible apply al_skip
         · simp only [go_sem, *]
         · simp only [go_sem]; with_reducible rfl)
      )
      all_goals ((simp only [go_sem, *]); first | done | (simp [h6]; done))
    · skip
      have k0 : (decide (s.got ≥ 0) && decide (s.got ≤ s.cursor - s.start)) = true := by rw [Bool.and_eq_true]; simp only [decide_eq_true_eq, ge_iff_le]; omega
      have k1 : (decide (s.lost ≥ 0) && decide (s.lost ≤ s.cursor - s.start)) = false := by rw [Bool.and_eq_false_iff]; simp only [decide_eq_false_iff_not, ge_iff_le]; omega
      have h6 : subB r s = false := by rw [subB, decide_eq_false (p := 0 ≤ s.got ∧ s.got ≤ s.cursor - s.start ∧ 0 ≤ s.lost ∧ s.lost ≤ s.cursor - s.start ∧ 0 ≤ s.passed ∧ s.passed ≤ s.cursor - s.start ∧ s.got + s.lost + s.passed = s.cursor - s.start) (by omega), Bool.and_false]
      refine sound_body hT Go.Proofs.Try.func72 rfl ?_
      rw [Go.Proofs.Try.results72, Go.Proofs.Try.ntmps72]
      simp only [frame, List.length_cons, List.length_nil, List.replicate, List.cons_append, List.nil_append, Nat.reduceAdd, Nat.reduceSub]
      repeat' (first
      | with_reducible first | refine aw_seq ?_ | refine aw_block ?_ | refine aw_skip ?_ | refine aw_exit ?_
      | with_reducible first | refine aw_ret ?_ | refine thenA_n ?_ | refine thenA_r ?_ | refine thenA_x ?_ | refine blockA_n ?_ | refine blockA_r ?_ | refine blockA_e ?_ | refine blockA_x (by decide) ?_ | refine ends_r ?_ | refine ends_n ?_ | refine ends_rM ?_ | refine ends_nM ?_ | refine aw_reg ?_
      | with_reducible refine al_nil ?_
      | (with_reducible apply aw_cond
         · simp only [go_sem, *]; with_reducible rfl
         all_goals (intro h; try simp only [Bool.not_eq_true', Bool.not_eq_false', reduceCtorEq] at h))
      | (with_reducible apply al_call (f := 92)
         · first | exact gchk_none rfl | simp only [go_sem, *]
         · rfl
         · exact Go.Proofs.Try.call92
         · simp only [go_sem, encRing, encSub, *]; with_reducible rfl
         · simp only [go_sem, *]
         · first | assumption | ((with_reducible apply c_impl_FilterOk) <;> first | assumption | rfl)
         · simp only [go_sem]; with_reducible rfl)
      | (with_reducible apply al_call (f := 70)
         · first | exact gchk_none rfl | simp only [go_sem, *]
         · rfl
         · exact Go.Proofs.Try.call70
         · simp only [go_sem, encRing, encSub, *]; with_reducible rfl
         · simp only [go_sem, *]
         · first | assumption | ((with_reducible apply c_impl_within) <;> first | assumption | rfl)
         · simp only [go_sem]; with_reducible rfl)
      | (with_reducible apply al_s hT true
         · first | exact gchk_none rfl | simp only [go_sem, *]
         · simp only [go_sem, encRing, encSub, *]; first | done | with_reducible rfl)
      | (with_reducible apply al_skip
         · simp only [go_sem, *]
         · simp only [go_sem]; with_reducible rfl)
      )
      all_goals ((simp only [go_sem, *]); first | done | (simp [h6]; done))
    · skip
      have k0 : (decide (s.got ≥ 0) && decide (s.got ≤ s.cursor - s.start)) = true := by rw [Bool.and_eq_true]; simp only [decide_eq_true_eq, ge_iff_le]; omega
      have k1 : (decide (s.lost ≥ 0) && decide (s.lost ≤ s.cursor - s.start)) = true := by rw [Bool.and_eq_true]; simp only [decide_eq_true_eq, ge_iff_le]; omega
      have k2 : (decide (s.passed ≥ 0) && decide (s.passed ≤ s.cursor - s.start)) = false := by rw [Bool.and_eq_false_iff]; simp only [decide_eq_false_iff_not, ge_iff_le]; omega
      have h6 : subB r s = false := by rw [subB, decide_eq_false (p := 0 ≤ s.got ∧ s.got ≤ s.cursor - s.start ∧ 0 ≤ s.lost ∧ s.lost ≤ s.cursor - s.start ∧ 0 ≤ s.passed ∧ s.passed ≤ s.cursor - s.start ∧ s.got + s.lost + s.passed = s.cursor - s.start) (by omega), Bool.and_false]
      refine sound_body hT Go.Proofs.Try.func72 rfl ?_
      rw [Go.Proofs.Try.results72, Go.Proofs.Try.ntmps72]
      simp only [frame, List.length_cons, List.length_nil, List.replicate, List.cons_append, List.nil_append, Nat.reduceAdd, Nat.reduceSub]
      repeat' (first
      | with_reducible first | refine aw_seq ?_ | refine aw_block ?_ | refine aw_skip ?_ | refine aw_exit ?_
      | with_reducible first | refine aw_ret ?_ | refine thenA_n ?_ | refine thenA_r ?_ | refine thenA_x ?_ | refine blockA_n ?_ | refine blockA_r ?_ | refine blockA_e ?_ | refine blockA_x (by decide) ?_ | refine ends_r ?_ | refine ends_n ?_ | refine ends_rM ?_ | refine ends_nM ?_ | refine aw_reg ?_
      | with_reducible refine al_nil ?_
      | (with_reducible apply aw_cond
         · simp only [go_sem, *]; with_reducible rfl
         all_goals (intro h; try simp only [Bool.not_eq_true', Bool.not_eq_false', reduceCtorEq] at h))
      | (with_reducible apply al_call (f := 92)
         · first | exact gchk_none rfl | simp only [go_sem, *]
         · rfl
         · exact Go.Proofs.Try.call92
         · simp only [go_sem, encRing, encSub, *]; with_reducible rfl
         · simp only [go_sem, *]
         · first | assumption | ((with_reducible apply c_impl_FilterOk) <;> first | assumption | rfl)
         · simp only [go_sem]; with_reducible rfl)
      | (with_reducible apply al_call (f := 70)
         · first | exact gchk_none rfl | simp only [go_sem, *]
         · rfl
         · exact Go.Proofs.Try.call70
         · simp only [go_sem, encRing, encSub, *]; with_reducible rfl
         · simp only [go_sem, *]
         · first | assumption | ((with_reducible apply c_impl_within) <;> first | assumption | rfl)
         · simp only [go_sem]; with_reducible rfl)
      | (with_reducible apply al_s hT true
         · first | exact gchk_none rfl | simp only [go_sem, *]
         · simp only [go_sem, encRing, encSub, *]; first | done | with_reducible rfl)
      | (with_reducible apply al_skip
         · simp only [go_sem, *]
         · simp only [go_sem]; with_reducible rfl)
      )
      all_goals ((simp only [go_sem, *]); first | done | (simp [h6]; done))
    · have hw2 : IntKind.i64.wrap (s.got + s.lost) = s.got + s.lost := by rw [wrap_small] <;> omega
      have hw3 : IntKind.i64.wrap (s.got + s.lost + s.passed) = s.got + s.lost + s.passed := by rw [wrap_small] <;> omega
      have k0 : (decide (s.got ≥ 0) && decide (s.got ≤ s.cursor - s.start)) = true := by rw [Bool.and_eq_true]; simp only [decide_eq_true_eq, ge_iff_le]; omega
      have k1 : (decide (s.lost ≥ 0) && decide (s.lost ≤ s.cursor - s.start)) = true := by rw [Bool.and_eq_true]; simp only [decide_eq_true_eq, ge_iff_le]; omega
      have k2 : (decide (s.passed ≥ 0) && decide (s.passed ≤ s.cursor - s.start)) = true := by rw [Bool.and_eq_true]; simp only [decide_eq_true_eq, ge_iff_le]; omega
      have h6 : subB r s = decide (s.got + s.lost + s.passed = s.cursor - s.start) := by
        rw [subB, hF, decide_eq_true (p := 0 ≤ s.start ∧ s.start ≤ s.cursor ∧ s.cursor ≤ r.sent) hc]
        by_cases e : s.got + s.lost + s.passed = s.cursor - s.start
        · rw [decide_eq_true e, decide_eq_true (by omega)]; rfl
        · rw [decide_eq_false e, decide_eq_false (by omega)]; rfl
      have h7 : (s.got + s.lost + s.passed == s.cursor - s.start) = decide (s.got + s.lost + s.passed = s.cursor - s.start) := by
        by_cases e : s.got + s.lost + s.passed = s.cursor - s.start <;> simp [e]
      refine sound_body hT Go.Proofs.Try.func72 rfl ?_
      rw [Go.Proofs.Try.results72, Go.Proofs.Try.ntmps72]
      simp only [frame, List.length_cons, List.length_nil, List.replicate, List.cons_append, List.nil_append, Nat.reduceAdd, Nat.reduceSub]
      repeat' (first
      | with_reducible first | refine aw_seq ?_ | refine aw_block ?_ | refine aw_skip ?_ | refine aw_exit ?_
      | with_reducible first | refine aw_ret ?_ | refine thenA_n ?_ | refine thenA_r ?_ | refine thenA_x ?_ | refine blockA_n ?_ | refine blockA_r ?_ | refine blockA_e ?_ | refine blockA_x (by decide) ?_ | refine ends_r ?_ | refine ends_n ?_ | refine ends_rM ?_ | refine ends_nM ?_ | refine aw_reg ?_
      | with_reducible refine al_nil ?_
      | (with_reducible apply aw_cond
         · simp only [go_sem, *]; with_reducible rfl
         all_goals (intro h; try simp only [Bool.not_eq_true', Bool.not_eq_false', reduceCtorEq] at h))
      | (with_reducible apply al_call (f := 92)
         · first | exact gchk_none rfl | simp only [go_sem, *]
         · rfl
         · exact Go.Proofs.Try.call92
         · simp only [go_sem, encRing, encSub, *]; with_reducible rfl
         · simp only [go_sem, *]
         · first | assumption | ((with_reducible apply c_impl_FilterOk) <;> first | assumption | rfl)
         · simp only [go_sem]; with_reducible rfl)
      | (with_reducible apply al_call (f := 70)
         · first | exact gchk_none rfl | simp only [go_sem, *]
         · rfl
         · exact Go.Proofs.Try.call70
         · simp only [go_sem, encRing, encSub, *]; with_reducible rfl
         · simp only [go_sem, *]
         · first | assumption | ((with_reducible apply c_impl_within) <;> first | assumption | rfl)
         · simp only [go_sem]; with_reducible rfl)
      | (with_reducible apply al_s hT true
         · first | exact gchk_none rfl | simp only [go_sem, *]
         · simp only [go_sem, encRing, encSub, *]; first | done | with_reducible rfl)
      )
      all_goals ((simp only [go_sem, *]); first | done | (simp [h6]; done))
set_option maxHeartbeats 8000000 in
theorem c_spec_l9SubOk (r : RingV) (s : SubV) {u v : AV} (hu : u = encRing false r) (hv : v = encSub false s) (hs : okSub s) (hb : r.sent ≤ 1000000000) (hn : 0 ≤ r.next) (hn2 : r.next ≤ 1000000000) :
    Sound P 61 [u, v] (.bool ((decide (s.id ≥ 0) && decide (s.id ≤ r.next - 1)) && subB r s)) := by
  subst hu hv
  have hf : s.filter.length < 4611686018427387904 := hs.1
  have ht : ∀ t ∈ s.filter, t.fits := hs.2
  have hwn : IntKind.i64.wrap (r.next - 1) = r.next - 1 := by rw [wrap_small] <;> omega
  obtain ⟨F, hF⟩ : ∃ F, filterB s.filter = F := ⟨_, rfl⟩
  cases hI : (decide (s.id ≥ 0) && decide (s.id ≤ r.next - 1))
  · skip
    refine sound_body hT Go.Proofs.Try.func61 rfl ?_
    rw [Go.Proofs.Try.results61, Go.Proofs.Try.ntmps61]
    simp only [frame, List.length_cons, List.length_nil, List.replicate, List.cons_append, List.nil_append, Nat.reduceAdd, Nat.reduceSub]
    repeat' (first
    | with_reducible first | refine aw_seq ?_ | refine aw_block ?_ | refine aw_skip ?_ | refine aw_exit ?_
    | with_reducible first | refine aw_ret ?_ | refine thenA_n ?_ | refine thenA_r ?_ | refine thenA_x ?_ | refine blockA_n ?_ | refine blockA_r ?_ | refine blockA_e ?_ | refine blockA_x (by decide) ?_ | refine ends_r ?_ | refine ends_n ?_ | refine ends_rM ?_ | refine ends_nM ?_ | refine aw_reg ?_
    | with_reducible refine al_nil ?_
    | (with_reducible apply aw_cond
       · simp only [go_sem, *]; with_reducible rfl
       all_goals (intro h; try simp only [Bool.not_eq_true', Bool.not_eq_false', reduceCtorEq] at h))
    | (with_reducible apply al_call (f := 60)
       · first | exact gchk_none rfl | simp only [go_sem, *]
       · rfl
       · exact Go.Proofs.Try.call60
       · simp only [go_sem, encRing, encSub, *]; with_reducible rfl
       · simp only [go_sem, *]
       · first | assumption | ((with_reducible apply c_spec_l1In) <;> first | assumption | rfl)
       · simp only [go_sem]; with_reducible rfl)
    | (with_reducible apply al_s hT true
       · first | exact gchk_none rfl | simp only [go_sem, *]
       · simp only [go_sem, encRing, encSub, *]; first | done | with_reducible rfl)
    | (with_reducible apply al_skip
       · simp only [go_sem, *]
       · simp only [go_sem]; with_reducible rfl)
    )
    all_goals ((simp only [go_sem, *]); first | done | rfl)
  rw [Bool.true_and]
  rcases (by omega : s.start < 0 ∨ (¬ s.start < 0 ∧ s.start > s.cursor) ∨ (¬ s.start < 0 ∧ ¬ s.start > s.cursor ∧ s.cursor > r.sent) ∨ (0 ≤ s.start ∧ s.start ≤ s.cursor ∧ s.cursor ≤ r.sent)) with hc | hc | hc | hc
  · skip
    have g0 : decide (s.start < 0) = true := decide_eq_true (by omega)
    have h6 : subB r s = false := by rw [subB, decide_eq_false (p := 0 ≤ s.start ∧ s.start ≤ s.cursor ∧ s.cursor ≤ r.sent) (by omega), Bool.false_and, Bool.false_and]
    refine sound_body hT Go.Proofs.Try.func61 rfl ?_
    rw [Go.Proofs.Try.results61, Go.Proofs.Try.ntmps61]
    simp only [frame, List.length_cons, List.length_nil, List.replicate, List.cons_append, List.nil_append, Nat.reduceAdd, Nat.reduceSub]
    repeat' (first
    | with_reducible first | refine aw_seq ?_ | refine aw_block ?_ | refine aw_skip ?_ | refine aw_exit ?_
    | with_reducible first | refine aw_ret ?_ | refine thenA_n ?_ | refine thenA_r ?_ | refine thenA_x ?_ | refine blockA_n ?_ | refine blockA_r ?_ | refine blockA_e ?_ | refine blockA_x (by decide) ?_ | refine ends_r ?_ | refine ends_n ?_ | refine ends_rM ?_ | refine ends_nM ?_ | refine aw_reg ?_
    | with_reducible refine al_nil ?_
    | (with_reducible apply aw_cond
       · simp only [go_sem, *]; with_reducible rfl
       all_goals (intro h; try simp only [Bool.not_eq_true', Bool.not_eq_false', reduceCtorEq] at h))
    | (with_reducible apply al_call (f := 60)
       · first | exact gchk_none rfl | simp only [go_sem, *]
       · rfl
       · exact Go.Proofs.Try.call60
       · simp only [go_sem, encRing, encSub, *]; with_reducible rfl
       · simp only [go_sem, *]
       · first | assumption | ((with_reducible apply c_spec_l1In) <;> first | assumption | rfl)
       · simp only [go_sem]; with_reducible rfl)
    | (with_reducible apply al_s hT true
       · first | exact gchk_none rfl | simp only [go_sem, *]
       · simp only [go_sem, encRing, encSub, *]; first | done | with_reducible rfl)
    | (with_reducible apply al_skip
       · simp only [go_sem, *]
       · simp only [go_sem]; with_reducible rfl)
    )
    all_goals ((simp only [go_sem, *]); first | done | (simp [h6]; done))
  · skip
    have g0 : decide (s.start < 0) = false := decide_eq_false (by omega)
    have g1 : decide (s.start > s.cursor) = true := decide_eq_true (by omega)
    have h6 : subB r s = false := by rw [subB, decide_eq_false (p := 0 ≤ s.start ∧ s.start ≤ s.cursor ∧ s.cursor ≤ r.sent) (by omega), Bool.false_and, Bool.false_and]
    refine sound_body hT Go.Proofs.Try.func61 rfl ?_
    rw [Go.Proofs.Try.results61, Go.Proofs.Try.ntmps61]
    simp only [frame, List.length_cons, List.length_nil, List.replicate, List.cons_append, List.nil_append, Nat.reduceAdd, Nat.reduceSub]
    repeat' (first
    | with_reducible first | refine aw_seq ?_ | refine aw_block ?_ | refine aw_skip ?_ | refine aw_exit ?_
    | with_reducible first | refine aw_ret ?_ | refine thenA_n ?_ | refine thenA_r ?_ | refine thenA_x ?_ | refine blockA_n ?_ | refine blockA_r ?_ | refine blockA_e ?_ | refine blockA_x (by decide) ?_ | refine ends_r ?_ | refine ends_n ?_ | refine ends_rM ?_ | refine ends_nM ?_ | refine aw_reg ?_
    | with_reducible refine al_nil ?_
    | (with_reducible apply aw_cond
       · simp only [go_sem, *]; with_reducible rfl
       all_goals (intro h; try simp only [Bool.not_eq_true', Bool.not_eq_false', reduceCtorEq] at h))
    | (with_reducible apply al_call (f := 60)
       · first | exact gchk_none rfl | simp only [go_sem, *]
       · rfl
       · exact Go.Proofs.Try.call60
       · simp only [go_sem, encRing, encSub, *]; with_reducible rfl
       · simp only [go_sem, *]
       · first | assumption | ((with_reducible apply c_spec_l1In) <;> first | assumption | rfl)
       · simp only [go_sem]; with_reducible rfl)
    | (with_reducible apply al_s hT true
       · first | exact gchk_none rfl | simp only [go_sem, *]
       · simp only [go_sem, encRing, encSub, *]; first | done | with_reducible rfl)
    | (with_reducible apply al_skip
       · simp only [go_sem, *]
       · simp only [go_sem]; with_reducible rfl)
    )
    all_goals ((simp only [go_sem, *]); first | done | (simp [h6]; done))
  · skip
    have g0 : decide (s.start < 0) = false := decide_eq_false (by omega)
    have g1 : decide (s.start > s.cursor) = false := decide_eq_false (by omega)
    have g2 : decide (s.cursor > r.sent) = true := decide_eq_true (by omega)
    have h6 : subB r s = false := by rw [subB, decide_eq_false (p := 0 ≤ s.start ∧ s.start ≤ s.cursor ∧ s.cursor ≤ r.sent) (by omega), Bool.false_and, Bool.false_and]
    refine sound_body hT Go.Proofs.Try.func61 rfl ?_
    rw [Go.Proofs.Try.results61, Go.Proofs.Try.ntmps61]
    simp only [frame, List.length_cons, List.length_nil, List.replicate, List.cons_append, List.nil_append, Nat.reduceAdd, Nat.reduceSub]
    repeat' (first
    | with_reducible first | refine aw_seq ?_ | refine aw_block ?_ | refine aw_skip ?_ | refine aw_exit ?_
    | with_reducible first | refine aw_ret ?_ | refine thenA_n ?_ | refine thenA_r ?_ | refine thenA_x ?_ | refine blockA_n ?_ | refine blockA_r ?_ | refine blockA_e ?_ | refine blockA_x (by decide) ?_ | refine ends_r ?_ | refine ends_n ?_ | refine ends_rM ?_ | refine ends_nM ?_ | refine aw_reg ?_
    | with_reducible refine al_nil ?_
    | (with_reducible apply aw_cond
       · simp only [go_sem, *]; with_reducible rfl
       all_goals (intro h; try simp only [Bool.not_eq_true', Bool.not_eq_false', reduceCtorEq] at h))
    | (with_reducible apply al_call (f := 60)
       · first | exact gchk_none rfl | simp only [go_sem, *]
       · rfl
       · exact Go.Proofs.Try.call60
       · simp only [go_sem, encRing, encSub, *]; with_reducible rfl
       · simp only [go_sem, *]
       · first | assumption | ((with_reducible apply c_spec_l1In) <;> first | assumption | rfl)
       · simp only [go_sem]; with_reducible rfl)
    | (with_reducible apply al_s hT true
       · first | exact gchk_none rfl | simp only [go_sem, *]
       · simp only [go_sem, encRing, encSub, *]; first | done | with_reducible rfl)
    | (with_reducible apply al_skip
       · simp only [go_sem, *]
       · simp only [go_sem]; with_reducible rfl)
    )
    all_goals ((simp only [go_sem, *]); first | done | (simp [h6]; done))
  · have hw1 : IntKind.i64.wrap (s.cursor - s.start) = s.cursor - s.start := by rw [wrap_small] <;> omega
    have g0 : decide (s.start < 0) = false := decide_eq_false (by omega)
    have g1 : decide (s.start > s.cursor) = false := decide_eq_false (by omega)
    have g2 : decide (s.cursor > r.sent) = false := decide_eq_false (by omega)
    rcases (by omega : (s.got < 0) ∨ (¬ (s.got < 0) ∧ s.lost < 0) ∨ (¬ (s.got < 0) ∧ ¬ (s.lost < 0) ∧ s.passed < 0) ∨ (¬ (s.got < 0) ∧ ¬ (s.lost < 0) ∧ ¬ (s.passed < 0) ∧ ¬ s.got ≤ s.cursor - s.start) ∨ (¬ (s.got < 0) ∧ ¬ (s.lost < 0) ∧ ¬ (s.passed < 0) ∧ ¬ (¬ s.got ≤ s.cursor - s.start) ∧ ¬ s.lost ≤ s.cursor - s.start) ∨ (¬ (s.got < 0) ∧ ¬ (s.lost < 0) ∧ ¬ (s.passed < 0) ∧ ¬ (¬ s.got ≤ s.cursor - s.start) ∧ ¬ (¬ s.lost ≤ s.cursor - s.start) ∧ ¬ s.passed ≤ s.cursor - s.start) ∨ (¬ (s.got < 0) ∧ ¬ (s.lost < 0) ∧ ¬ (s.passed < 0) ∧ ¬ (¬ s.got ≤ s.cursor - s.start) ∧ ¬ (¬ s.lost ≤ s.cursor - s.start) ∧ ¬ (¬ s.passed ≤ s.cursor - s.start))) with hd | hd | hd | hd | hd | hd | hd
    · skip
      have k0 : decide (s.got < 0) = true := by simp only [decide_eq_true_eq, decide_eq_false_iff_not]; omega
      have h6 : subB r s = false := by rw [subB, decide_eq_false (p := 0 ≤ s.got ∧ s.got ≤ s.cursor - s.start ∧ 0 ≤ s.lost ∧ s.lost ≤ s.cursor - s.start ∧ 0 ≤ s.passed ∧ s.passed ≤ s.cursor - s.start ∧ s.got + s.lost + s.passed = s.cursor - s.start) (by omega), Bool.and_false]
      refine sound_body hT Go.Proofs.Try.func61 rfl ?_
      rw [Go.Proofs.Try.results61, Go.Proofs.Try.ntmps61]
      simp only [frame, List.length_cons, List.length_nil, List.replicate, List.cons_append, List.nil_append, Nat.reduceAdd, Nat.reduceSub]
      repeat' (first
      | with_reducible first | refine aw_seq ?_ | refine aw_block ?_ | refine aw_skip ?_ | refine aw_exit ?_
      | with_reducible first | refine aw_ret ?_ | refine thenA_n ?_ | refine thenA_r ?_ | refine thenA_x ?_ | refine blockA_n ?_ | refine blockA_r ?_ | refine blockA_e ?_ | refine blockA_x (by decide) ?_ | refine ends_r ?_ | refine ends_n ?_ | refine ends_rM ?_ | refine ends_nM ?_ | refine aw_reg ?_
      | with_reducible refine al_nil ?_
      | (with_reducible apply aw_cond
         · simp only [go_sem, *]; with_reducible rfl
         all_goals (intro h; try simp only [Bool.not_eq_true', Bool.not_eq_false', reduceCtorEq] at h))
      | (with_reducible apply al_call (f := 60)
         · first | exact gchk_none rfl | simp only [go_sem, *]
         · rfl
         · exact Go.Proofs.Try.call60
         · simp only [go_sem, encRing, encSub, *]; with_reducible rfl
         · simp only [go_sem, *]
         · first | assumption | ((with_reducible apply c_spec_l1In) <;> first | assumption | rfl)
         · simp only [go_sem]; with_reducible rfl)
      | (with_reducible apply al_s hT true
         · first | exact gchk_none rfl | simp only [go_sem, *]
         · simp only [go_sem, encRing, encSub, *]; first | done | with_reducible rfl)
      | (with_reducible apply al_skip
         · simp only [go_sem, *]
         · simp only [go_sem]; with_reducible rfl)
      )
      all_goals ((simp only [go_sem, *]); first | done | (simp [h6]; done))
    · skip
      have k0 : decide (s.got < 0) = false := by simp only [decide_eq_true_eq, decide_eq_false_iff_not]; omega
      have k1 : decide (s.lost < 0) = true := by simp only [decide_eq_true_eq, decide_eq_false_iff_not]; omega
      have h6 : subB r s = false := by rw [subB, decide_eq_false (p := 0 ≤ s.got ∧ s.got ≤ s.cursor - s.start ∧ 0 ≤ s.lost ∧ s.lost ≤ s.cursor - s.start ∧ 0 ≤ s.passed ∧ s.passed ≤ s.cursor - s.start ∧ s.got + s.lost + s.passed = s.cursor - s.start) (by omega), Bool.and_false]
      refine sound_body hT Go.Proofs.Try.func61 rfl ?_
      rw [Go.Proofs.Try.results61, Go.Proofs.Try.ntmps61]
      simp only [frame, List.length_cons, List.length_nil, List.replicate, List.cons_append, List.nil_append, Nat.reduceAdd, Nat.reduceSub]
      repeat' (first
      | with_reducible first | refine aw_seq ?_ | refine aw_block ?_ | refine aw_skip ?_ | refine aw_exit ?_
      | with_reducible first | refine aw_ret ?_ | refine thenA_n ?_ | refine thenA_r ?_ | refine thenA_x ?_ | refine blockA_n ?_ | refine blockA_r ?_ | refine blockA_e ?_ | refine blockA_x (by decide) ?_ | refine ends_r ?_ | refine ends_n ?_ | refine ends_rM ?_ | refine ends_nM ?_ | refine aw_reg ?_
      | with_reducible refine al_nil ?_
      | (with_reducible apply aw_cond
         · simp only [go_sem, *]; with_reducible rfl
         all_goals (intro h; try simp only [Bool.not_eq_true', Bool.not_eq_false', reduceCtorEq] at h))
      | (with_reducible apply al_call (f := 60)
         · first | exact gchk_none rfl | simp only [go_sem, *]
         · rfl
         · exact Go.Proofs.Try.call60
         · simp only [go_sem, encRing, encSub, *]; with_reducible rfl
         · simp only [go_sem, *]
         · first | assumption | ((with_reducible apply c_spec_l1In) <;> first | assumption | rfl)
         · simp only [go_sem]; with_reducible rfl)
      | (with_reducible apply al_s hT true
         · first | exact gchk_none rfl | simp only [go_sem, *]
         · simp only [go_sem, encRing, encSub, *]; first | done | with_reducible rfl)
      | (with_reducible apply al_skip
         · simp only [go_sem, *]
         · simp only [go_sem]; with_reducible rfl)
      )
      all_goals ((simp only [go_sem, *]); first | done | (simp [h6]; done))
    · skip
      have k0 : decide (s.got < 0) = false := by simp only [decide_eq_true_eq, decide_eq_false_iff_not]; omega
      have k1 : decide (s.lost < 0) = false := by simp only [decide_eq_true_eq, decide_eq_false_iff_not]; omega
      have k2 : decide (s.passed < 0) = true := by simp only [decide_eq_true_eq, decide_eq_false_iff_not]; omega
      have h6 : subB r s = false := by rw [subB, decide_eq_false (p := 0 ≤ s.got ∧ s.got ≤ s.cursor - s.start ∧ 0 ≤ s.lost ∧ s.lost ≤ s.cursor - s.start ∧ 0 ≤ s.passed ∧ s.passed ≤ s.cursor - s.start ∧ s.got + s.lost + s.passed = s.cursor - s.start) (by omega), Bool.and_false]
      refine sound_body hT Go.Proofs.Try.func61 rfl ?_
      rw [Go.Proofs.Try.results61, Go.Proofs.Try.ntmps61]
      simp only [frame, List.length_cons, List.length_nil, List.replicate, List.cons_append, List.nil_append, Nat.reduceAdd, Nat.reduceSub]
      repeat' (first
      | with_reducible first | refine aw_seq ?_ | refine aw_block ?_ | refine aw_skip ?_ | refine aw_exit ?_
      | with_reducible first | refine aw_ret ?_ | refine thenA_n ?_ | refine thenA_r ?_ | refine thenA_x ?_ | refine blockA_n ?_ | refine blockA_r ?_ | refine blockA_e ?_ | refine blockA_x (by decide) ?_ | refine ends_r ?_ | refine ends_n ?_ | refine ends_rM ?_ | refine ends_nM ?_ | refine aw_reg ?_
      | with_reducible refine al_nil ?_
      | (with_reducible apply aw_cond
         · simp only [go_sem, *]; with_reducible rfl
         all_goals (intro h; try simp only [Bool.not_eq_true', Bool.not_eq_false', reduceCtorEq] at h))
      | (with_reducible apply al_call (f := 60)
         · first | exact gchk_none rfl | simp only [go_sem, *]
         · rfl
         · exact Go.Proofs.Try.call60
         · simp only [go_sem, encRing, encSub, *]; with_reducible rfl
         · simp only [go_sem, *]
         · first | assumption | ((with_reducible apply c_spec_l1In) <;> first | assumption | rfl)
         · simp only [go_sem]; with_reducible rfl)
      | (with_reducible apply al_s hT true
         · first | exact gchk_none rfl | simp only [go_sem, *]
         · simp only [go_sem, encRing, encSub, *]; first | done | with_reducible rfl)
      )
      all_goals ((simp only [go_sem, *]); first | done | (simp [h6]; done))
    · skip
      have k0 : decide (s.got < 0) = false := by simp only [decide_eq_true_eq, decide_eq_false_iff_not]; omega
      have k1 : decide (s.lost < 0) = false := by simp only [decide_eq_true_eq, decide_eq_false_iff_not]; omega
      have k2 : decide (s.passed < 0) = false := by simp only [decide_eq_true_eq, decide_eq_false_iff_not]; omega
      have k3 : decide (s.got ≤ s.cursor - s.start) = false := by simp only [decide_eq_true_eq, decide_eq_false_iff_not]; omega
      have h6 : subB r s = false := by rw [subB, decide_eq_false (p := 0 ≤ s.got ∧ s.got ≤ s.cursor - s.start ∧ 0 ≤ s.lost ∧ s.lost ≤ s.cursor - s.start ∧ 0 ≤ s.passed ∧ s.passed ≤ s.cursor - s.start ∧ s.got + s.lost + s.passed = s.cursor - s.start) (by omega), Bool.and_false]
      refine sound_body hT Go.Proofs.Try.func61 rfl ?_
      rw [Go.Proofs.Try.results61, Go.Proofs.Try.ntmps61]
      simp only [frame, List.length_cons, List.length_nil, List.replicate, List.cons_append, List.nil_append, Nat.reduceAdd, Nat.reduceSub]
      repeat' (first
      | with_reducible first | refine aw_seq ?_ | refine aw_block ?_ | refine aw_skip ?_ | refine aw_exit ?_
      | with_reducible first | refine aw_ret ?_ | refine thenA_n ?_ | refine thenA_r ?_ | refine thenA_x ?_ | refine blockA_n ?_ | refine blockA_r ?_ | refine blockA_e ?_ | refine blockA_x (by decide) ?_ | refine ends_r ?_ | refine ends_n ?_ | refine ends_rM ?_ | refine ends_nM ?_ | refine aw_reg ?_
      | with_reducible refine al_nil ?_
      | (with_reducible apply aw_cond
         · simp only [go_sem, *]; with_reducible rfl
         all_goals (intro h; try simp only [Bool.not_eq_true', Bool.not_eq_false', reduceCtorEq] at h))
      | (with_reducible apply al_call (f := 60)
         · first | exact gchk_none rfl | simp only [go_sem, *]
         · rfl
         · exact Go.Proofs.Try.call60
         · simp only [go_sem, encRing, encSub, *]; with_reducible rfl
         · simp only [go_sem, *]
         · first | assumption | ((with_reducible apply c_spec_l1In) <;> first | assumption | rfl)
         · simp only [go_sem]; with_reducible rfl)
      | (with_reducible apply al_s hT true
         · first | exact gchk_none rfl | simp only [go_sem, *]
         · simp only [go_sem, encRing, encSub, *]; first | done | with_reducible rfl)
      | (with_reducible apply al_skip
         · simp only [go_sem, *]
         · simp only [go_sem]; with_reducible rfl)
      )
      all_goals ((simp only [go_sem, *]); first | done | (simp [h6]; done))
    · skip
      have k0 : decide (s.got < 0) = false := by simp only [decide_eq_true_eq, decide_eq_false_iff_not]; omega
      have k1 : decide (s.lost < 0) = false := by simp only [decide_eq_true_eq, decide_eq_false_iff_not]; omega
      have k2 : decide (s.passed < 0) = false := by simp only [decide_eq_true_eq, decide_eq_false_iff_not]; omega
      have k3 : decide (s.got ≤ s.cursor - s.start) = true := by simp only [decide_eq_true_eq, decide_eq_false_iff_not]; omega
      have k4 : decide (s.lost ≤ s.cursor - s.start) = false := by simp only [decide_eq_true_eq, decide_eq_false_iff_not]; omega
      have h6 : subB r s = false := by rw [subB, decide_eq_false (p := 0 ≤ s.got ∧ s.got ≤ s.cursor - s.start ∧ 0 ≤ s.lost ∧ s.lost ≤ s.cursor - s.start ∧ 0 ≤ s.passed ∧ s.passed ≤ s.cursor - s.start ∧ s.got + s.lost + s.passed = s.cursor - s.start) (by omega), Bool.and_false]
      refine sound_body hT Go.Proofs.Try.func61 rfl ?_
      rw [Go.Proofs.Try.results61, Go.Proofs.Try.ntmps61]
      simp only [frame, List.length_cons, List.length_nil, List.replicate, List.cons_append, List.nil_append, Nat.reduceAdd, Nat.reduceSub]
      repeat' (first
      | with_reducible first | refine aw_seq ?_ | refine aw_block ?_ | refine aw_skip ?_ | refine aw_exit ?_
      | with_reducible first | refine aw_ret ?_ | refine thenA_n ?_ | refine thenA_r ?_ | refine thenA_x ?_ | refine blockA_n ?_ | refine blockA_r ?_ | refine blockA_e ?_ | refine blockA_x (by decide) ?_ | refine ends_r ?_ | refine ends_n ?_ | refine ends_rM ?_ | refine ends_nM ?_ | refine aw_reg ?_
      | with_reducible refine al_nil ?_
      | (with_reducible apply aw_cond
         · simp only [go_sem, *]; with_reducible rfl
         all_goals (intro h; try simp only [Bool.not_eq_true', Bool.not_eq_false', reduceCtorEq] at h))
      | (with_reducible apply al_call (f := 60)
         · first | exact gchk_none rfl | simp only [go_sem, *]
         · rfl
         · exact Go.Proofs.Try.call60
         · simp only [go_sem, encRing, encSub, *]; with_reducible rfl
         · simp only [go_sem, *]
         · first | assumption | ((with_reducible apply c_spec_l1In) <;> first | assumption | rfl)
         · simp only [go_sem]; with_reducible rfl)
      | (with_reducible apply al_s hT true
         · first | exact gchk_none rfl | simp only [go_sem, *]
         · simp only [go_sem, encRing, encSub, *]; first | done | with_reducible rfl)
      | (with_reducible apply al_skip
         · simp only [go_sem, *]
         · simp only [go_sem]; with_reducible rfl)
      )
      all_goals ((simp only [go_sem, *]); first | done | (simp [h6]; done))
    · skip
      have k0 : decide (s.got < 0) = false := by simp only [decide_eq_true_eq, decide_eq_false_iff_not]; omega
      have k1 : decide (s.lost < 0) = false := by simp only [decide_eq_true_eq, decide_eq_false_iff_not]; omega
      have k2 : decide (s.passed < 0) = false := by simp only [decide_eq_true_eq, decide_eq_false_iff_not]; omega
      have k3 : decide (s.got ≤ s.cursor - s.start) = true := by simp only [decide_eq_true_eq, decide_eq_false_iff_not]; omega
      have k4 : decide (s.lost ≤ s.cursor - s.start) = true := by simp only [decide_eq_true_eq, decide_eq_false_iff_not]; omega
      have k5 : decide (s.passed ≤ s.cursor - s.start) = false := by simp only [decide_eq_true_eq, decide_eq_false_iff_not]; omega
      have h6 : subB r s = false := by rw [subB, decide_eq_false (p := 0 ≤ s.got ∧ s.got ≤ s.cursor - s.start ∧ 0 ≤ s.lost ∧ s.lost ≤ s.cursor - s.start ∧ 0 ≤ s.passed ∧ s.passed ≤ s.cursor - s.start ∧ s.got + s.lost + s.passed = s.cursor - s.start) (by omega), Bool.and_false]
      refine sound_body hT Go.Proofs.Try.func61 rfl ?_
      rw [Go.Proofs.Try.results61, Go.Proofs.Try.ntmps61]
      simp only [frame, List.length_cons, List.length_nil, List.replicate, List.cons_append, List.nil_append, Nat.reduceAdd, Nat.reduceSub]
      repeat' (first
      | with_reducible first | refine aw_seq ?_ | refine aw_block ?_ | refine aw_skip ?_ | refine aw_exit ?_
      | with_reducible first | refine aw_ret ?_ | refine thenA_n ?_ | refine thenA_r ?_ | refine thenA_x ?_ | refine blockA_n ?_ | refine blockA_r ?_ | refine blockA_e ?_ | refine blockA_x (by decide) ?_ | refine ends_r ?_ | refine ends_n ?_ | refine ends_rM ?_ | refine ends_nM ?_ | refine aw_reg ?_
      | with_reducible refine al_nil ?_
      | (with_reducible apply aw_cond
         · simp only [go_sem, *]; with_reducible rfl
         all_goals (intro h; try simp only [Bool.not_eq_true', Bool.not_eq_false', reduceCtorEq] at h))
      | (with_reducible apply al_call (f := 60)
         · first | exact gchk_none rfl | simp only [go_sem, *]
         · rfl
         · exact Go.Proofs.Try.call60
         · simp only [go_sem, encRing, encSub, *]; with_reducible rfl
         · simp only [go_sem, *]
         · first | assumption | ((with_reducible apply c_spec_l1In) <;> first | assumption | rfl)
         · simp only [go_sem]; with_reducible rfl)
      | (with_reducible apply al_s hT true
         · first | exact gchk_none rfl | simp only [go_sem, *]
         · simp only [go_sem, encRing, encSub, *]; first | done | with_reducible rfl)
      | (with_reducible apply al_skip
         · simp only [go_sem, *]
         · simp only [go_sem]; with_reducible rfl)
      )
      all_goals ((simp only [go_sem, *]); first | done | (simp [h6]; done))
    · have hw2 : IntKind.i64.wrap (s.got + s.lost) = s.got + s.lost := by rw [wrap_small] <;> omega
      have hw3 : IntKind.i64.wrap (s.got + s.lost + s.passed) = s.got + s.lost + s.passed := by rw [wrap_small] <;> omega
      have k0 : decide (s.got < 0) = false := by simp only [decide_eq_true_eq, decide_eq_false_iff_not]; omega
      have k1 : decide (s.lost < 0) = false := by simp only [decide_eq_true_eq, decide_eq_false_iff_not]; omega
      have k2 : decide (s.passed < 0) = false := by simp only [decide_eq_true_eq, decide_eq_false_iff_not]; omega
      have k3 : decide (s.got ≤ s.cursor - s.start) = true := by simp only [decide_eq_true_eq, decide_eq_false_iff_not]; omega
      have k4 : decide (s.lost ≤ s.cursor - s.start) = true := by simp only [decide_eq_true_eq, decide_eq_false_iff_not]; omega
      have k5 : decide (s.passed ≤ s.cursor - s.start) = true := by simp only [decide_eq_true_eq, decide_eq_false_iff_not]; omega
      have h6 : subB r s = (F && decide (s.got + s.lost + s.passed = s.cursor - s.start)) := by
        rw [subB, hF, decide_eq_true (p := 0 ≤ s.start ∧ s.start ≤ s.cursor ∧ s.cursor ≤ r.sent) hc]
        by_cases e : s.got + s.lost + s.passed = s.cursor - s.start
        · rw [decide_eq_true e, decide_eq_true (by omega)]; cases F <;> rfl
        · rw [decide_eq_false e, decide_eq_false (by omega)]; cases F <;> rfl
      have h7 : (s.got + s.lost + s.passed == s.cursor - s.start) = decide (s.got + s.lost + s.passed = s.cursor - s.start) := by
        by_cases e : s.got + s.lost + s.passed = s.cursor - s.start <;> simp [e]
      refine sound_body hT Go.Proofs.Try.func61 rfl ?_
      rw [Go.Proofs.Try.results61, Go.Proofs.Try.ntmps61]
      simp only [frame, List.length_cons, List.length_nil, List.replicate, List.cons_append, List.nil_append, Nat.reduceAdd, Nat.reduceSub]
      repeat' (first
      | with_reducible first | refine aw_seq ?_ | refine aw_block ?_ | refine aw_skip ?_ | refine aw_exit ?_
      | with_reducible first | refine aw_ret ?_ | refine thenA_n ?_ | refine thenA_r ?_ | refine thenA_x ?_ | refine blockA_n ?_ | refine blockA_r ?_ | refine blockA_e ?_ | refine blockA_x (by decide) ?_ | refine ends_r ?_ | refine ends_n ?_ | refine ends_rM ?_ | refine ends_nM ?_ | refine aw_reg ?_
      | with_reducible refine al_nil ?_
      | (with_reducible apply aw_cond
         · simp only [go_sem, *]; with_reducible rfl
         all_goals (intro h; try simp only [Bool.not_eq_true', Bool.not_eq_false', reduceCtorEq] at h))
      | (with_reducible apply al_call (f := 60)
         · first | exact gchk_none rfl | simp only [go_sem, *]
         · rfl
         · exact Go.Proofs.Try.call60
         · simp only [go_sem, encRing, encSub, *]; with_reducible rfl
         · simp only [go_sem, *]
         · first | assumption | ((with_reducible apply c_spec_l1In) <;> first | assumption | rfl)
         · simp only [go_sem]; with_reducible rfl)
      | (with_reducible apply al_call (f := 90)
         · first | exact gchk_none rfl | simp only [go_sem, *]
         · rfl
         · exact Go.Proofs.Try.call90
         · simp only [go_sem, encRing, encSub, *]; with_reducible rfl
         · simp only [go_sem, *]
         · first | assumption | ((with_reducible apply c_spec_FilterOk) <;> first | assumption | rfl)
         · simp only [go_sem]; with_reducible rfl)
      | (with_reducible apply al_s hT true
         · first | exact gchk_none rfl | simp only [go_sem, *]
         · simp only [go_sem, encRing, encSub, *]; first | done | with_reducible rfl)
      | (with_reducible apply al_skip
         · simp only [go_sem, *]
         · simp only [go_sem]; with_reducible rfl)
      | ((with_reducible first | apply al_caseT rfl | apply al_caseF rfl)
         · simp only [go_sem, *]; with_reducible rfl
         · simp only [go_sem]; with_reducible rfl
         all_goals (intro h; try simp only [Bool.not_eq_true', Bool.not_eq_false'] at h)
         fail_if_success (with_reducible have hh : (true = true ∨ false = false) := by first | exact Or.inl h | exact Or.inr h))
      )
      all_goals ((simp only [go_sem, *]); first | done | (cases F <;> simp_all; done))
end Go.Proofs.Ytcgkejggkenecaa
