/- The law FnExactSend returns true of every ring and message. -/
import Derived.Test.YtlgdijjkegeccaaFnSf
import Derived.Test.YtlgdijjkegeccaaBvM5
import Derived.Test.YtlgdijjkegeccaaBvUx
namespace Go.Proofs.Ytlgdijjkegeccaa
open Go Go.RowKit Go.Bv
set_option linter.unusedSimpArgs false
set_option linter.unusedVariables false
set_option maxRecDepth 4000
set_option maxHeartbeats 8000000
/-! The walks that end. -/
theorem sFnSh6 {p q : Prop} (k : q) (h : q → p := by
  first
  | exact shAL (by exact i_l (f := 22) 0 _)
  | exact shAL (by exact i_l (f := 34) 0 _)
  | exact shAR 13 (by exact i_S hT [[], [], [1], [0, 1, 2], [0, 1, 2, 3]] [63, 64, 65, 66, 67])
  | exact shAR 8 (by exact i_U hT [[], [0], [], [0, 1, 2], [0, 1, 2, 3], [0, 1, 2, 3, 4], [0, 1, 2, 3, 4, 5], [0, 1, 2, 3, 4, 5], [0, 1, 2, 3, 4, 5], [], [0, 1, 2, 3, 4, 5, 6, 9], [0, 1, 2, 3, 4, 5, 6, 7, 9, 10], [0, 1, 2, 3, 4, 5, 6, 7, 8, 9, 10, 11]] [[(30, .v _)], [(31, .v _)], [(32, .v _)], [(33, .v _)], [(34, .v _)], [(29, .v _), (34, .v _)], [(35, .v _), (29, .h 0)], [(36, .v _), (29, .h 1)], [(37, .v _), (29, .h 2)], [(6, .v _)], [(6, .v _), (35, .v _)], [(7, .v _)], [(8, .v _)]] (by decide +kernel) (by refine st_oU [1, 3, 4, 5, 6, 7, 8, 10, 11, 12] ?_; refine st_oU [3, 4, 5, 6, 7, 8, 10, 11, 12] ?_; refine st_oU [3, 4, 5, 6, 7, 8, 10, 11, 12] ?_; refine st_oU [4, 5, 6, 7, 8, 10, 11, 12] ?_; refine st_oU [5, 6, 7, 8, 10, 11, 12] ?_; refine st_oU [6, 7, 8, 10, 11, 12] ?_; refine st_oU [10, 11, 12] ?_; refine st_oU [11, 12] ?_; refine st_oU [12] ?_; refine st_oU [10, 11, 12] ?_; refine st_oU [11, 12] ?_; refine st_oU [12] ?_; refine st_oU [] ?_; exact steps_nil))
  | exact shAR 10 (by exact i_U hT [[], [], [1], [0, 1, 2], [0, 1, 2, 3], [0, 1, 2, 3, 4], [0, 1, 2, 3, 4], [0, 1, 2, 3, 4], [], [0, 1, 2, 3, 4, 5, 8], [0, 1, 2, 3, 4, 5, 6, 8, 9], [0, 1, 2, 3, 4, 5, 6, 7, 8, 9, 10]] [[(41, .v _)], [(42, .v _)], [(43, .v _)], [(44, .v _)], [(40, .v _), (44, .v _)], [(45, .v _), (40, .h 0)], [(46, .v _), (40, .h 1)], [(47, .v _), (40, .h 2)], [(10, .v _)], [(10, .v _), (45, .v _)], [(11, .v _)], [(12, .v _)]] (by decide +kernel) (by refine st_oU [3, 4, 5, 6, 7, 9, 10, 11] ?_; refine st_oU [2, 3, 4, 5, 6, 7, 9, 10, 11] ?_; refine st_oU [3, 4, 5, 6, 7, 9, 10, 11] ?_; refine st_oU [4, 5, 6, 7, 9, 10, 11] ?_; refine st_oU [5, 6, 7, 9, 10, 11] ?_; refine st_oU [9, 10, 11] ?_; refine st_oU [10, 11] ?_; refine st_oU [11] ?_; refine st_oU [9, 10, 11] ?_; refine st_oU [10, 11] ?_; refine st_oU [11] ?_; refine st_oU [] ?_; exact steps_nil))
  | exact shAR 31 (by exact i_U hT [[], [0], [], [0, 1, 2], [0, 1, 2, 3], [0, 1, 2, 3, 4], [0, 1, 2, 3, 4, 5], [0, 1, 2, 3, 4, 5], [0, 1, 2, 3, 4, 5], [], [0, 1, 2, 3, 4, 5, 6, 9], [0, 1, 2, 3, 4, 5, 6, 7, 9, 10], [0, 1, 2, 3, 4, 5, 6, 7, 8, 9, 10, 11]] [[(110, .v _)], [(111, .v _)], [(112, .v _)], [(113, .v _)], [(114, .v _)], [(109, .v _), (114, .v _)], [(115, .v _), (109, .h 0)], [(116, .v _), (109, .h 1)], [(117, .v _), (109, .h 2)], [(16, .v _)], [(16, .v _), (115, .v _)], [(17, .v _)], [(18, .v _)]] (by decide +kernel) (by refine st_oU [1, 3, 4, 5, 6, 7, 8, 10, 11, 12] ?_; refine st_oU [3, 4, 5, 6, 7, 8, 10, 11, 12] ?_; refine st_oU [3, 4, 5, 6, 7, 8, 10, 11, 12] ?_; refine st_oU [4, 5, 6, 7, 8, 10, 11, 12] ?_; refine st_oU [5, 6, 7, 8, 10, 11, 12] ?_; refine st_oU [6, 7, 8, 10, 11, 12] ?_; refine st_oU [10, 11, 12] ?_; refine st_oU [11, 12] ?_; refine st_oU [12] ?_; refine st_oU [10, 11, 12] ?_; refine st_oU [11, 12] ?_; refine st_oU [12] ?_; refine st_oU [] ?_; exact steps_nil))
  | exact i1
  | fail) : p := h k
theorem wFnSh6_0 {p : Prop} (h : p := by
  have E0 := @encRing.eq_1
  have E1 := @encMsg.eq_1
  refine snd_b hT Try.func6 Try.results6 Try.ntmps6 ?_
  repeat' (first | refine sFnSh6 ?_ | (refine two ?_ ?_; all_goals (intro h; try simp only [Bool.not_eq_true', Bool.not_eq_false', reduceCtorEq] at h)) | fail)
  all_goals (simp only [go_sem, *]; first | done | rfl)) : p := h
-- VIEWS

theorem ring_lensS {r : RingV} (h : wRing r ≤ 1048576) : r.line.length ≤ 1048576 ∧ r.grants.length ≤ 1048576 ∧ r.items.length ≤ 1048576 ∧ r.subs.length ≤ 1048576 := by
  simp only [wRing, wMsgS, wSubS, wIntS] at h
  omega
theorem c_laws_FnExactSend (r : RingV) (m : MsgV) {u v : AV} (hu : u = encRing false r) (hv : v = encMsg false m) (hr : okRing r) (hm : okMsg m) : Sound P 6 [u, v] (.bool true) := by
  subst hu hv
  have h0 : decide ((1048576 : Int) < 0) = false := by decide
  have h1 : (1048576 : Int) ≤ 1048576 := by omega
  rcases szW_cases (wRing r) 1048576 with ⟨hw, hz⟩ | ⟨hw, hz⟩
  · have hwn : wRing r ≤ 1048576 := by omega
    have hw4 : wRing r ≤ 4194304 := by omega
    obtain ⟨l1, l2, l3, _⟩ := ring_lensS hwn
    have hg : decide ((1048576 : Int) - (wRing r : Int) < 0) = false := decide_eq_false (by omega)
    have h2 : (1048576 : Int) - (wRing r : Int) ≤ 1048576 := by omega
    rcases szW_cases (wMsg m) (1048576 - (wRing r : Int)) with ⟨hv, hy⟩ | ⟨hv, hy⟩
    rotate_left
    · have hg2 : decide ((-1 : Int) < 0) = true := by decide
      exact wFnSh6_0
    have hg2 : decide ((1048576 : Int) - (wRing r : Int) - (wMsg m : Int) < 0) = false := decide_eq_false (by omega)
    have hm4 : wMsg m ≤ 4194304 := by omega
    obtain ⟨hqw, hLw⟩ := send_w hr m
    obtain ⟨q, hq⟩ : ∃ q, sendR r m = q := ⟨_, rfl⟩
    obtain ⟨L, hL⟩ : ∃ L, sendL r m = L := ⟨_, rfl⟩
    obtain ⟨c, hc⟩ : ∃ c, sendC r m = c := ⟨_, rfl⟩
    rw [hq] at hqw
    rw [hL] at hLw
    have hq4 : wRing q ≤ 4194304 := by omega
    have hL4 : wIntS L ≤ 4194304 := by rw [wIntS_len]; omega
    have t1 := mt10Ring r
    have t2 := mt10Ring q
    have t3 := mw10IntS L
    have hk1 : 1 + ((mtRingW r : Nat) : Int) ≤ 1099511627776 := by omega
    have hb1 : decide (1 + ((mtRingW r : Nat) : Int) < 0) = false := decide_eq_false (by omega)
    have hk2 : 1 + ((mtRingW q : Nat) : Int) ≤ 1099511627776 := by omega
    have hb2 : decide (1 + ((mtRingW q : Nat) : Int) < 0) = false := decide_eq_false (by omega)
    have hk3 : 0 ≤ 1 + ((mtRingW q : Nat) : Int) := by omega
    have hk4 : 1 + ((mtRingW q : Nat) : Int) + ((mwIntS L : Nat) : Int) ≤ 1099511627776 := by omega
    have hb3 : decide (1 + ((mtRingW q : Nat) : Int) + ((mwIntS L : Nat) : Int) < 0) = false := decide_eq_false (by omega)
    have hp : (0 : Int) ≤ 1 := by omega
    have htk : List.take L.length (List.map encInt (mkIntS L (1 + ((mtRingW q : Nat) : Int)))) = List.map encInt (mkIntS L (1 + ((mtRingW q : Nat) : Int))) := List.take_of_length_le (by rw [List.length_map, show (mkIntS L (1 + ((mtRingW q : Nat) : Int))).length = L.length from mkL_len _ _ _ _]; exact Nat.le_refl _)
    clear hqw hLw t1 t2 t3 hwn
    exact wFnSh6_0
  · have hg : decide ((-1 : Int) < 0) = true := by decide
    exact wFnSh6_0
noncomputable abbrev ic_laws_FnExactSend := Con.mk (P := P) (f := 6) Try.call6 @c_laws_FnExactSend
attribute [instance] ic_laws_FnExactSend
end Go.Proofs.Ytlgdijjkegeccaa
