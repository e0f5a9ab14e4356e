/- The law FnExactPull returns true of every ring, number and most. -/
import Derived.Test.YtlgdijjkegeccaaFnQs
import Derived.Test.YtlgdijjkegeccaaBvM5
namespace Go.Proofs.Ytlgdijjkegeccaa
open Go Go.RowKit Go.Bv
set_option linter.unusedSimpArgs false
set_option linter.unusedVariables false
set_option maxRecDepth 4000
set_option maxHeartbeats 8000000
/-! The walks that end. -/
theorem sFnQl5 {p q : Prop} (k : q) (h : q → p := by
  first
  | exact shAL (by exact i_l (f := 22) 0 _)
  | exact shAL (by exact i_l (f := 27) 0 _)
  | exact shAR 10 (by exact i_S hT [[], [], [1], [0, 1, 2], [0, 1, 2, 3]] [60, 61, 62, 63, 64])
  | exact i1
  | fail) : p := h k
theorem wFnQl5_0 {p : Prop} (h : p := by
  have E0 := @encRing.eq_1
  have E1 := @encTold.eq_1
  have E2 := @encMsg.eq_1
  refine snd_b hT Try.func5 Try.results5 Try.ntmps5 ?_
  repeat' (first | refine sFnQl5 ?_ | (refine two ?_ ?_; all_goals (intro h; try simp only [Bool.not_eq_true', Bool.not_eq_false', reduceCtorEq] at h)) | fail)
  all_goals (simp only [go_sem, *]; first | done | rfl)) : p := h
-- VIEWS

theorem ring_lensQ {r : RingV} (h : wRing r ≤ 1048576) : r.line.length ≤ 1048576 ∧ r.grants.length ≤ 1048576 ∧ r.items.length ≤ 1048576 ∧ r.subs.length ≤ 1048576 := by
  simp only [wRing, wMsgS, wSubS, wIntS] at h
  omega
theorem pullX_w {r : RingV} (hr : okRing r) (id most : Int) : wRing (pullX r id most).1 ≤ wRing r ∧ (pullX r id most).2.1.length ≤ 50 ∧ sumL wTold (pullX r id most).2.1 ≤ 2000 := by
  cases h : pullB r id most
  · rw [pullX, h]; simp [sumL]
  · have h' := h
    simp only [pullB, Bool.and_eq_true, decide_eq_true_eq, Bool.not_eq_true', decide_eq_false_iff_not] at h'
    obtain ⟨k, s, hk, _, _, _⟩ := atI_at (f := r.subs) (id := id) (by omega)
    rw [pull_yes h hk]
    obtain ⟨a, b, c⟩ := pull_w (n := most.toNat) hr (ringIs h'.1.1.1).read hk
    exact ⟨a, by omega, by omega⟩
theorem c_laws_FnExactPull (r : RingV) (id most : Int) {u : AV} (hu : u = encRing false r) (hr : okRing r) : Sound P 5 [u, .int .i64 id, .int .i64 most] (.bool true) := by
  subst hu
  have h0 : decide ((1048576 : Int) < 0) = false := by decide
  have h1 : (1048576 : Int) ≤ 1048576 := by omega
  rcases szW_cases (wRing r) 1048576 with ⟨hw, hz⟩ | ⟨hw, hz⟩
  · have hwn : wRing r ≤ 1048576 := by omega
    have hw4 : wRing r ≤ 4194304 := by omega
    obtain ⟨l1, l2, l3, _⟩ := ring_lensQ hwn
    have hg : decide ((1048576 : Int) - (wRing r : Int) < 0) = false := decide_eq_false (by omega)
    have hqw := pullX_w hr id most
    obtain ⟨X, hX⟩ : ∃ X, pullX r id most = X := ⟨_, rfl⟩
    obtain ⟨q, L, c⟩ := X
    rw [hX] at hqw
    simp only at hqw
    have hq4 : wRing q ≤ 4194304 := by omega
    have hL4 : wToldS L ≤ 4194304 := by simp only [wToldS]; omega
    have t1 := mt10Ring r
    have t2 := mt10Ring q
    have t3 := mw10ToldS L
    have hk1 : 1 + ((mtRingW r : Nat) : Int) ≤ 1099511627776 := by omega
    have hb1 : decide (1 + ((mtRingW r : Nat) : Int) < 0) = false := by simp; omega
    have hk2 : 1 + ((mtRingW q : Nat) : Int) ≤ 1099511627776 := by omega
    have hb2 : decide (1 + ((mtRingW q : Nat) : Int) < 0) = false := by simp; omega
    have hk3 : 0 ≤ 1 + ((mtRingW q : Nat) : Int) := by omega
    have hk4 : 1 + ((mtRingW q : Nat) : Int) + ((mwToldS L : Nat) : Int) ≤ 1099511627776 := by omega
    have hb3 : decide (1 + ((mtRingW q : Nat) : Int) + ((mwToldS L : Nat) : Int) < 0) = false := decide_eq_false (by omega)
    have hp : (0 : Int) ≤ 1 := by omega
    have htk : List.take L.length (List.map (encTold false) (mkToldS L (1 + ((mtRingW q : Nat) : Int)))) = List.map (encTold false) (mkToldS L (1 + ((mtRingW q : Nat) : Int))) := List.take_of_length_le (by rw [List.length_map, show (mkToldS L (1 + ((mtRingW q : Nat) : Int))).length = L.length from mkL_len _ _ _ _]; exact Nat.le_refl _)
    clear hqw t1 t2 t3 hwn
    exact wFnQl5_0
  · have hg : decide ((-1 : Int) < 0) = true := by decide
    exact wFnQl5_0
noncomputable abbrev ic_laws_FnExactPull := Con.mk (P := P) (f := 5) Try.call5 @c_laws_FnExactPull
attribute [instance] ic_laws_FnExactPull
end Go.Proofs.Ytlgdijjkegeccaa
