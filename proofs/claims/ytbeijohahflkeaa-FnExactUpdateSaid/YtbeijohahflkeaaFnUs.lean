/- Contracts: Update, of the specification; the law. -/
import Derived.Test.YtbeijohahflkeaaFnUp
import Derived.Test.YtbeijohahflkeaaFnCj
import Derived.Test.YtbeijohahflkeaaBvM5
namespace Go.Proofs.Ytbeijohahflkeaa
open Go Go.RowKit Go.Bv
set_option linter.unusedSimpArgs false
set_option linter.unusedVariables false
set_option maxRecDepth 4000
set_option maxHeartbeats 8000000
/-! The walks that end. -/
theorem sFnUs21F {p q : Prop} (k : q) (h : q → p := by
  first
  | exact shRt (by exact i_g (r := 2) (pth := [3]) 1)
  | exact shAR 2 (by exact i_T hT [[], [0], [0, 1], [], [3], [0, 1, 2, 3, 4], [0, 1, 2, 3, 4, 5], [0, 1, 2, 3, 4, 5, 6]] 5 [8, 9, 10, 11, 12])
  | exact i1F
  | fail) : p := h k
theorem wFnUs21_0 {p : Prop} (h : p := by
  have E0 := @encCell.eq_1
  have E1 := @encMsg.eq_1
  have E2 := @zeroCell.eq_1
  refine snd_b hT Try.func21 Try.results21 Try.ntmps21 ?_
  repeat' (first | ((with_reducible refine rest_go (by assumption) ?_); (rw [clr_eq]; rotate_left; rfl; simp only [keepB, go_sem, Nat.reduceBEq, Nat.reduceAdd, cond_true, cond_false, *]; simp only [clrG, Nat.reduceBEq, Nat.reduceAdd, cond_true, cond_false]); first | done | rfl) | refine sFnUs21F ?_ | (refine two ?_ ?_; all_goals (intro h; try simp only [Bool.not_eq_true', Bool.not_eq_false', reduceCtorEq] at h)) | fail)
  all_goals (simp only [go_sem, *]; first | done | rfl)) : p := h
-- VIEWS
-- KEPT
-- TAGRET spec.l7Free 2 [3] 1

-- MOVE c_spec_l7Free
theorem c_spec_l7Free (kd nm : Int) (tx : ByteArray) (ver : Int) (cl : Bool) (line grants : List Int) {u : AV} (hu : u = .agg [.agg [.int .i64 kd, .int .i64 nm, .str tx], .int .i64 ver, .bool cl, .lst true 1 (line.map encInt), .lst true 1 (grants.map encInt)])
    (h1 : line.length ≤ 4194304) (h2 : grants.length ≤ 4194304) (h3 : grants.length + line.length ≤ 4194304) : Sound P 21 [u] (.tup [encCell true ⟨⟨kd, nm, tx⟩, ver, cl, [], grants ++ line⟩, .lst true 1 (line.map encInt)]) := by
  subst hu
  have hp : plAs (grants.map encInt ++ line.map encInt) = true := by rw [← List.map_append]; exact plAs_Int _
  have ha : grants.map encInt ++ line.map encInt = (grants ++ line).map encInt := (List.map_append ..).symm
  exact wFnUs21_0
noncomputable abbrev ic_spec_l7Free := ConM.mk (P := P) (f := 21) Try.call21 @c_spec_l7Free
attribute [instance] ic_spec_l7Free
theorem upd_w (c : CellV) (x : ChangeV) (hx : wMsg (chgM c.val x) ≤ 100) : wCell (updR c x) ≤ wCell c + 100 := by
  unfold updR
  split
  · simp only [wCell, wIntS, List.length_append, List.length_nil, sumL_zero wInt fun _ => rfl, Nat.add_zero]
    omega
  · omega
theorem upd_l (c : CellV) (x : ChangeV) : wIntS (updL c x) ≤ wCell c := by
  unfold updL
  split
  · simp only [wCell]; omega
  · exact Nat.zero_le _
theorem chg_w (m : MsgV) (x : ChangeV) : wMsg (chgM m x) ≤ 100 := by
  unfold chgM
  split
  · rename_i h
    split
    · rename_i o ho
      rw [chgB, ho, Bool.and_eq_true] at h
      have := size_in h.2
      simp only [wMsg]; omega
    · exact Nat.zero_le _
  · exact Nat.zero_le _
theorem c_spec_Update (c : CellV) (x : ChangeV) {u v : AV} (hu : u = encCell false c) (hv : v = encChange false x) (hm : okMsg c.val) (hx : okMsg x.msg) (h1 : c.line.length ≤ 1048576) (h2 : c.grants.length ≤ 1048576) : Sound P 6 [u, v] (.tup [encCell true (updR c x), .lst true 1 ((updL c x).map encInt), .int .i64 (updC c x)]) := by
  subst hu hv
  have g1 : c.line.length ≤ 4194304 := by omega
  have g2 : c.grants.length ≤ 4194304 := by omega
  have g3 : c.grants.length + c.line.length ≤ 4194304 := by omega
  have hvg : cellB c = true → decide (c.version ≥ 1000000000) = (c.version == 1000000000) := fun h => by
    have := upd_ver h
    by_cases e : c.version = 1000000000
    · rw [e]; rfl
    · rw [decide_eq_false (by omega)]
      exact (beq_eq_false_iff_ne.2 e).symm
  have hcr : decide ((c.line.length : Int) + c.grants.length > 32) = crowB c := rfl
  have wl : IntKind.i64.wrap ((c.line.length : Int) + c.grants.length) = (c.line.length : Int) + c.grants.length := by rw [wrap_small] <;> omega
  have wv : cellB c = true → IntKind.i64.wrap (c.version + 1) = c.version + 1 := fun h => by
    have := upd_ver h
    rw [wrap_small] <;> omega
  obtain ⟨M, hM⟩ : ∃ M, chgM c.val x = M := ⟨_, rfl⟩
  have hR : updR c x = if updB c x then ⟨M, c.version + 1, c.closed, [], c.grants ++ c.line⟩ else c := by rw [updR, hM]
  have hL : updL c x = if updB c x then c.line else [] := rfl
  have hk : updC c x = if cellB c then (if c.closed then 6 else if chgB c.val x then (if updFull c then 2 else 0) else 1) else 1 := rfl
  rw [hR, hL, hk]
  clear hR hL hk
  have hU : updB c x = (cellB c && !c.closed && chgB c.val x && !updFull c) := rfl
  have kF : Kept (AV.agg [.agg [.int .i64 c.val.kind, .int .i64 c.val.num, .str c.val.text], .int .i64 c.version, .bool c.closed, .lst false 1 (c.line.map encInt), .lst false 1 (c.grants.map encInt)] = encCell false c) := ⟨rfl⟩
  rcases upd_cases c x with ⟨a1, a2⟩ | ⟨a1, a2⟩ | ⟨a1, a2, a3⟩ | ⟨a1, a2, a3, a4, a5⟩ | ⟨a1, a2, a3, a4, a5, a6⟩ | ⟨a1, a2, a3, a4, a5, a6⟩
  all_goals (
    simp only [a1, a2, *, Bool.not_true, Bool.not_false, Bool.and_false, Bool.and_true, Bool.false_and, Bool.true_and, Bool.and_self, if_true, Bool.false_eq_true, if_false] at hU ⊢
    simp only [hU, a2, if_true, Bool.false_eq_true, if_false, List.map_nil] at kF ⊢
    clear hU
    refine snd_b hT Try.func6 Try.results6 Try.ntmps6 ?_
    (all_goals (have E0 := @encCell.eq_1))
    (all_goals (have E1 := @encMsg.eq_1))
    (all_goals (have E2 := @encChange.eq_1))
    (all_goals (have E3 := @zeroCell.eq_1))
    repeat' (first | ((with_reducible refine rest_go (by assumption) ?_); (rw [clr_eq]; rotate_left; rfl; simp only [keepB, go_sem, Nat.reduceBEq, Nat.reduceAdd, cond_true, cond_false, *]; simp only [clrG, Nat.reduceBEq, Nat.reduceAdd, cond_true, cond_false]); first | done | rfl) | refine oneF ?_ | (refine two ?_ ?_; all_goals (intro h; try simp only [Bool.not_eq_true', Bool.not_eq_false', reduceCtorEq] at h)) | fail)
    all_goals (try clear E0 E1 E2 E3)
    all_goals ((simp only [go_sem, *]); simp only [encCell, encMsg, a2]; first | done | rfl))
noncomputable abbrev ic_spec_Update := Con.mk (P := P) (f := 6) Try.call6 @c_spec_Update
attribute [instance] ic_spec_Update
end Go.Proofs.Ytbeijohahflkeaa
