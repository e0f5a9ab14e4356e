/- Contracts: Receive and Peek, of the specification; the laws. -/
import Derived.Test.YtlgdijjkegeccaaFnRc
import Derived.Test.YtlgdijjkegeccaaFnSs
import Derived.Test.YtlgdijjkegeccaaBvM5
namespace Go.Proofs.Ytlgdijjkegeccaa
open Go Go.RowKit Go.Bv
set_option linter.unusedSimpArgs false
set_option linter.unusedVariables false
set_option maxRecDepth 4000
set_option maxHeartbeats 8000000
/-! The walks that end. -/
theorem wFnRx15_0 {p : Prop} (h : p := by
  have E0 := @encRing.eq_1
  have E1 := @zeroRing.eq_1
  have E2 := @zeroTold.eq_1
  have E3 := @encTold.eq_1
  have E4 := @encMsg.eq_1
  refine snd_b hT Try.func15 Try.results15 Try.ntmps15 ?_
  repeat' (first | refine oneF ?_ | (refine two ?_ ?_; all_goals (intro h; try simp only [Bool.not_eq_true', Bool.not_eq_false', reduceCtorEq] at h)) | fail)
  all_goals (simp only [go_sem, *]; first | done | rfl)) : p := h
theorem sFnRx4 {p q : Prop} (k : q) (h : q → p := by
  first
  | exact shAL (by exact i_l (f := 22) 0 _)
  | exact shAR 10 (by exact i_S hT [[], [], [1], [0, 1, 2], [0, 1, 2, 3]] [56, 57, 58, 59, 60])
  | exact i1
  | fail) : p := h k
theorem wFnRx4_0 {p : Prop} (h : p := by
  have E0 := @encRing.eq_1
  have E1 := @encTold.eq_1
  have E2 := @encMsg.eq_1
  have E3 := @zeroTold.eq_1
  refine snd_b hT Try.func4 Try.results4 Try.ntmps4 ?_
  repeat' (first | refine sFnRx4 ?_ | (refine two ?_ ?_; all_goals (intro h; try simp only [Bool.not_eq_true', Bool.not_eq_false', reduceCtorEq] at h)) | fail)
  all_goals (simp only [go_sem, *]; first | done | rfl)) : p := h
theorem sFnRx3 {p q : Prop} (k : q) (h : q → p := by
  first
  | exact shAR 10 (by exact i_S hT [[], [], [1], [0, 1, 2], [0, 1, 2, 3]] [40, 41, 42, 43, 44])
  | exact i1
  | fail) : p := h k
theorem wFnRx3_0 {p : Prop} (h : p := by
  have E0 := @encRing.eq_1
  have E1 := @encTold.eq_1
  have E2 := @encMsg.eq_1
  have E3 := @zeroTold.eq_1
  refine snd_b hT Try.func3 Try.results3 Try.ntmps3 ?_
  repeat' (first | refine sFnRx3 ?_ | (refine two ?_ ?_; all_goals (intro h; try simp only [Bool.not_eq_true', Bool.not_eq_false', reduceCtorEq] at h)) | fail)
  all_goals (simp only [go_sem, *]; first | done | rfl)) : p := h
-- VIEWS

theorem c_spec_Receive (r : RingV) (id : Int) {u : AV} (hu : u = encRing false r) (hr : okRing r) (hw : wRing r ≤ 4194304) (l1 : r.line.length ≤ 1048576) (l2 : r.grants.length ≤ 1048576) (l3 : r.items.length ≤ 1048576) : Sound P 20 [u, .int .i64 id] (.tup [encRing true (recvR r id), encTold false (recvT r id), .int .i64 (recvC r id)]) := by
  subst hu
  have m1 : r.line.length < 4611686018427387904 := by omega
  have m2 : r.grants.length < 4611686018427387904 := by omega
  have l4 : r.line.length ≤ 4194304 := by omega
  have hl : r.subs.length < 4611686018427387904 := hr.2.1.1
  cases hB : ringB r
  have hK := recv_none (id := id) (.inl hB)
  rw [show recvR r id = r by simp only [recvR, hK], show recvT r id = noTold by simp only [recvT, hK], show recvC r id = 1 by simp [recvC, hK, hB]]
  clear hK
  rotate_left
  by_cases hneg : atI r.subs id < 0
  have hK := recv_none (id := id) (.inr (.inl hneg))
  have hg : decide (atI r.subs id < 0) = true := decide_eq_true hneg
  rw [show recvR r id = r by simp only [recvR, hK], show recvT r id = noTold by simp only [recvT, hK], show recvC r id = 3 by simp [recvC, hK, hB, hneg]]
  clear hK
  rotate_left
  obtain ⟨k, s, hk, hkl, hks, hid⟩ := atI_at (f := r.subs) (id := id) (by omega)
  have hg : decide ((k : Int) < 0) = false := decide_eq_false (by omega)
  rcases (by cases r.line.any (· == id) <;> cases r.grants.any (· == id) <;> simp : (r.line.any (· == id) = false ∧ r.grants.any (· == id) = false) ∨ r.line.any (· == id) = true ∨ (r.line.any (· == id) = false ∧ r.grants.any (· == id) = true)) with hL | hL | hL
  rotate_left
  have hK := recv_none (id := id) (.inr (.inr (show busyB r id = true by simp only [busyB, hL, Bool.true_or])))
  rw [show recvR r id = r by simp only [recvR, hK], show recvT r id = noTold by simp only [recvT, hK], show recvC r id = 5 by simp only [recvC, hK, hB, if_true, if_neg hneg]]
  clear hK hneg
  rotate_left
  obtain ⟨hL, hG⟩ := hL
  have hK := recv_none (id := id) (.inr (.inr (show busyB r id = true by simp only [busyB, hL, hG, Bool.false_or])))
  rw [show recvR r id = r by simp only [recvR, hK], show recvT r id = noTold by simp only [recvT, hK], show recvC r id = 5 by simp only [recvC, hK, hB, if_true, if_neg hneg]]
  clear hK hneg
  rotate_left
  rotate_left
  rotate_left
  obtain ⟨hL, hG⟩ := hL
  have hK := recv_some hB hk hks (show busyB r id = false by simp only [busyB, hL, hG, Bool.or_self])
  rw [show recvR r id = waitR r k s id by simp only [recvR, hK], show recvT r id = readT r s by simp only [recvT, hK], show recvC r id = readC r s by simp only [recvC, hK]]
  have hI := ringIs hB
  have hb : Sound P 73 [.agg [.int .i64 r.cap, .int .i64 r.sent, .lst true 3 (r.items.map (encMsg true)), .int .i64 r.next, .lst true 7 (r.subs.map (encSub true)), .lst true 1 (r.line.map encInt), .lst true 1 (r.grants.map encInt), .bool r.closed], .int .i64 (k : Int)] (.tup [encRing true (waitR r k s s.id), encTold false (readT r s), .int .i64 (readC r s)]) :=
    wait0_spec r k s rfl hr hI.read hks l4
  rw [show s.id = id by simpa using hid] at hb
  obtain ⟨q, hq⟩ : ∃ q, waitR r k s id = q := ⟨_, rfl⟩
  obtain ⟨T, hT⟩ : ∃ T, readT r s = T := ⟨_, rfl⟩
  obtain ⟨c, hc⟩ : ∃ c, readC r s = c := ⟨_, rfl⟩
  rw [hq, hT, hc] at hb
  rw [hq, hT, hc]
  clear hK hneg hI hq hT hc hid
  all_goals (
    refine snd_b hT Try.func20 Try.results20 Try.ntmps20 ?_
    (all_goals (have E0 := @encRing.eq_1))
    (all_goals (have E1 := @zeroRing.eq_1))
    (all_goals (have E2 := @zeroTold.eq_1))
    (all_goals (have E3 := @encTold.eq_1))
    (all_goals (have E4 := @encMsg.eq_1))
    repeat' (first | refine one ?_ | (refine two ?_ ?_; all_goals (intro h; try simp only [Bool.not_eq_true', Bool.not_eq_false', reduceCtorEq] at h)) | fail)
    all_goals (try clear E0 E1 E2 E3 E4)
    all_goals ((simp only [go_sem, *]); first | done | rfl))
noncomputable abbrev ic_spec_Receive := Con.mk (P := P) (f := 20) Try.call20 @c_spec_Receive
attribute [instance] ic_spec_Receive
theorem c_spec_Peek (r : RingV) (id : Int) {u : AV} (hu : u = encRing false r) (hr : okRing r) (hw : wRing r ≤ 4194304) (l1 : r.line.length ≤ 1048576) (l2 : r.grants.length ≤ 1048576) (l3 : r.items.length ≤ 1048576) : Sound P 15 [u, .int .i64 id] (.tup [encTold false (recvT r id), .int .i64 (recvC r id)]) := by
  subst hu
  exact wFnRx15_0
noncomputable abbrev ic_spec_Peek := Con.mk (P := P) (f := 15) Try.call15 @c_spec_Peek
attribute [instance] ic_spec_Peek
theorem ring_lens {r : RingV} (h : wRing r ≤ 1048576) : r.line.length ≤ 1048576 ∧ r.grants.length ≤ 1048576 ∧ r.items.length ≤ 1048576 ∧ r.subs.length ≤ 1048576 := by
  simp only [wRing, wMsgS, wSubS, wIntS] at h
  omega
theorem c_laws_FnExactReceive (r : RingV) (id : Int) {u : AV} (hu : u = encRing false r) (hr : okRing r) : Sound P 4 [u, .int .i64 id] (.bool true) := by
  subst hu
  have h0 : decide ((1048576 : Int) < 0) = false := by decide
  have h1 : (1048576 : Int) ≤ 1048576 := by omega
  rcases szW_cases (wRing r) 1048576 with ⟨hw, hz⟩ | ⟨hw, hz⟩
  · have hwn : wRing r ≤ 1048576 := by omega
    have hw4 : wRing r ≤ 4194304 := by omega
    obtain ⟨l1, l2, l3, _⟩ := ring_lens hwn
    have hg : decide ((1048576 : Int) - (wRing r : Int) < 0) = false := decide_eq_false (by omega)
    have hqw := recv_w r id
    have hTw := recv_t r id
    obtain ⟨q, hq⟩ : ∃ q, recvR r id = q := ⟨_, rfl⟩
    obtain ⟨T, hTT⟩ : ∃ T, recvT r id = T := ⟨_, rfl⟩
    obtain ⟨c, hc⟩ : ∃ c, recvC r id = c := ⟨_, rfl⟩
    rw [hq] at hqw
    rw [hTT] at hTw
    have hq4 : wRing q ≤ 4194304 := by omega
    have hT4 : wTold T ≤ 4194304 := by omega
    have t1 := mt10Ring r
    have t2 := mt10Ring q
    have hk1 : 1 + ((mtRingW r : Nat) : Int) ≤ 1099511627776 := by omega
    have hb1 : decide (1 + ((mtRingW r : Nat) : Int) < 0) = false := by simp; omega
    have hk2 : 1 + ((mtRingW q : Nat) : Int) ≤ 1099511627776 := by omega
    have hb2 : decide (1 + ((mtRingW q : Nat) : Int) < 0) = false := by simp; omega
    have hp : (0 : Int) ≤ 1 := by omega
    clear hqw hTw t1 t2 hwn
    exact wFnRx4_0
  · have hg : decide ((-1 : Int) < 0) = true := by decide
    exact wFnRx4_0
noncomputable abbrev ic_laws_FnExactReceive := Con.mk (P := P) (f := 4) Try.call4 @c_laws_FnExactReceive
attribute [instance] ic_laws_FnExactReceive
theorem c_laws_FnExactPeek (r : RingV) (id : Int) {u : AV} (hu : u = encRing false r) (hr : okRing r) : Sound P 3 [u, .int .i64 id] (.bool true) := by
  subst hu
  have h0 : decide ((1048576 : Int) < 0) = false := by decide
  have h1 : (1048576 : Int) ≤ 1048576 := by omega
  rcases szW_cases (wRing r) 1048576 with ⟨hw, hz⟩ | ⟨hw, hz⟩
  · have hwn : wRing r ≤ 1048576 := by omega
    have hw4 : wRing r ≤ 4194304 := by omega
    obtain ⟨l1, l2, l3, _⟩ := ring_lens hwn
    have hg : decide ((1048576 : Int) - (wRing r : Int) < 0) = false := decide_eq_false (by omega)
    have hTw := recv_t r id
    obtain ⟨T, hTT⟩ : ∃ T, recvT r id = T := ⟨_, rfl⟩
    obtain ⟨c, hc⟩ : ∃ c, recvC r id = c := ⟨_, rfl⟩
    rw [hTT] at hTw
    have hT4 : wTold T ≤ 4194304 := by omega
    clear hTw hwn
    exact wFnRx3_0
  · have hg : decide ((-1 : Int) < 0) = true := by decide
    exact wFnRx3_0
noncomputable abbrev ic_laws_FnExactPeek := Con.mk (P := P) (f := 3) Try.call3 @c_laws_FnExactPeek
attribute [instance] ic_laws_FnExactPeek
end Go.Proofs.Ytlgdijjkegeccaa
