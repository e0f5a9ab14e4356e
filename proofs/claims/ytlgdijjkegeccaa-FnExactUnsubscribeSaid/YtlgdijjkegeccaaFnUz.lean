/- The law FnExactUnsubscribe returns true of every ring and number. -/
import Derived.Test.YtlgdijjkegeccaaFnUv
namespace Go.Proofs.Ytlgdijjkegeccaa
open Go Go.RowKit Go.Bv
set_option linter.unusedSimpArgs false
set_option linter.unusedVariables false
set_option maxRecDepth 4000
/-! The walks that end. -/
theorem sFnUz7 {p q : Prop} (k : q) (h : q → p := by
  first
  | exact shAL (by exact i_l (f := 22) 0 _)
  | exact shAR 10 (by exact i_S hT [[], [], [1], [0, 1, 2], [0, 1, 2, 3]] [45, 46, 47, 48, 49])
  | exact i1
  | fail) : p := h k
theorem wFnUz7_0 {p : Prop} (h : p := by
  have E0 := @encRing.eq_1
  refine snd_b hT Try.func7 Try.results7 Try.ntmps7 ?_
  repeat' (first | refine sFnUz7 ?_ | (refine two ?_ ?_; all_goals (intro h; try simp only [Bool.not_eq_true', Bool.not_eq_false', reduceCtorEq] at h)) | fail)
  all_goals (simp only [go_sem, *]; first | done | rfl)) : p := h

theorem ring_lensU {r : RingV} (h : wRing r ≤ 1048576) : r.line.length ≤ 1048576 ∧ r.grants.length ≤ 1048576 ∧ r.items.length ≤ 1048576 ∧ r.subs.length ≤ 1048576 := by
  simp only [wRing, wMsgS, wSubS, wIntS] at h
  omega
set_option maxHeartbeats 8000000 in
theorem c_laws_FnExactUnsubscribe (r : RingV) (id : Int) {u : AV} (hu : u = encRing false r) (hr : okRing r) : Sound P 7 [u, .int .i64 id] (.bool true) := by
  subst hu
  have h0 : decide ((1048576 : Int) < 0) = false := by decide
  have h1 : (1048576 : Int) ≤ 1048576 := by omega
  rcases szW_cases (wRing r) 1048576 with ⟨hw, hz⟩ | ⟨hw, hz⟩
  · have hwn : wRing r ≤ 1048576 := by omega
    have hw4 : wRing r ≤ 4194304 := by omega
    obtain ⟨l1, l2, l3, _⟩ := ring_lensU hwn
    have hg : decide ((1048576 : Int) - (wRing r : Int) < 0) = false := decide_eq_false (by omega)
    have hqw := unsub_w r id
    obtain ⟨q, hq⟩ : ∃ q, unsubR r id = q := ⟨_, rfl⟩
    obtain ⟨c, hc⟩ : ∃ c, unsubC r id = c := ⟨_, rfl⟩
    rw [hq] at hqw
    have hq4 : wRing q ≤ 4194304 := by omega
    have t1 := mt10Ring r
    have t2 := mt10Ring q
    have hk1 : 1 + ((mtRingW r : Nat) : Int) ≤ 1099511627776 := by omega
    have hb1 : decide (1 + ((mtRingW r : Nat) : Int) < 0) = false := by simp; omega
    have hk2 : 1 + ((mtRingW q : Nat) : Int) ≤ 1099511627776 := by omega
    have hb2 : decide (1 + ((mtRingW q : Nat) : Int) < 0) = false := by simp; omega
    have hp : (0 : Int) ≤ 1 := by omega
    clear hqw t1 t2 hwn
    exact wFnUz7_0
  · have hg : decide ((-1 : Int) < 0) = true := by decide
    exact wFnUz7_0
noncomputable abbrev ic_laws_FnExactUnsubscribe := Con.mk (P := P) (f := 7) Try.call7 @c_laws_FnExactUnsubscribe
attribute [instance] ic_laws_FnExactUnsubscribe
end Go.Proofs.Ytlgdijjkegeccaa
