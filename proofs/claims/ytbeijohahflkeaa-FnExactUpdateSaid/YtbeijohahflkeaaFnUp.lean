/- Contracts: Update, of the program. -/
import Derived.Test.YtbeijohahflkeaaFnCg
import Derived.Test.YtbeijohahflkeaaFnSe
import Derived.Test.YtbeijohahflkeaaKX
import Derived.Test.YtbeijohahflkeaaBvM5
namespace Go.Proofs.Ytbeijohahflkeaa
open Go Go.RowKit Go.Bv
set_option linter.unusedSimpArgs false
set_option linter.unusedVariables false
set_option maxRecDepth 4000
set_option maxHeartbeats 8000000
/-! The walks that end. -/
theorem wFnUp28_0 {p : Prop} (h : p := by
  refine snd_b hT Try.func28 Try.results28 Try.ntmps28 ?_
  repeat' (first | ((with_reducible refine rest_go (by assumption) ?_); (rw [clr_eq]; rotate_left; rfl; simp only [keepB, go_sem, Nat.reduceBEq, Nat.reduceAdd, cond_true, cond_false, *]; simp only [clrG, Nat.reduceBEq, Nat.reduceAdd, cond_true, cond_false]); first | done | rfl) | refine oneF ?_ | (refine two ?_ ?_; all_goals (intro h; try simp only [Bool.not_eq_true', Bool.not_eq_false', reduceCtorEq] at h)) | fail)
  all_goals (simp only [go_sem, *]; first | done | rfl)) : p := h
theorem wFnUp27_0 {p : Prop} (h : p := by
  have E0 := @encCell.eq_1
  have E1 := @encMsg.eq_1
  refine snd_b hT Try.func27 Try.results27 Try.ntmps27 ?_
  repeat' (first | ((with_reducible refine rest_go (by assumption) ?_); (rw [clr_eq]; rotate_left; rfl; simp only [keepB, go_sem, Nat.reduceBEq, Nat.reduceAdd, cond_true, cond_false, *]; simp only [clrG, Nat.reduceBEq, Nat.reduceAdd, cond_true, cond_false]); first | done | rfl) | refine one ?_ | (refine two ?_ ?_; all_goals (intro h; try simp only [Bool.not_eq_true', Bool.not_eq_false', reduceCtorEq] at h)) | fail)
  all_goals (simp only [go_sem, *]; first | done | rfl)) : p := h
theorem sFnUp9F {p q : Prop} (k : q) (h : q → p := by
  first
  | exact shAR 14 (by exact i_T hT [[], [], [1], [1, 2], [0, 1, 2, 3], [0, 1, 2, 3, 4], [0, 1, 2, 3, 4, 5]] 4 [56, 57, 58, 59])
  | exact i1F
  | fail) : p := h k
-- VIEWS
-- KEPT

theorem noSh_Msg1 (x : MsgV) : noSh (encMsg false x) = true := by simp only [encMsg, noSh, noShs, Bool.and_self]
attribute [go_sem] noSh_Msg1
theorem c_impl_release (f g : List Int) (hf : f.length ≤ 1048576) (hg : g.length ≤ 1048576) : Sound P 28 [.lst false 1 (f.map encInt), .lst false 1 (g.map encInt)] (.tup [.lst true 1 [], .lst true 1 ((g ++ f).map encInt)]) := by
  exact wFnUp28_0
noncomputable abbrev ic_impl_release := Con.mk (P := P) (f := 28) Try.call28 @c_impl_release
attribute [instance] ic_impl_release
def crowB (c : CellV) : Bool := decide ((c.line.length : Int) + c.grants.length > 32)
theorem c_impl_crowded (c : CellV) {u : AV} (hu : u = encCell false c) (h1 : c.line.length ≤ 1048576) (h2 : c.grants.length ≤ 1048576) : Sound P 27 [u] (.bool (crowB c)) := by
  subst hu
  have w : IntKind.i64.wrap ((c.line.length : Int) + c.grants.length) = (c.line.length : Int) + c.grants.length := by rw [wrap_small] <;> omega
  unfold crowB
  exact wFnUp27_0
noncomputable abbrev ic_impl_crowded := Con.mk (P := P) (f := 27) Try.call27 @c_impl_crowded
attribute [instance] ic_impl_crowded
def updFull (c : CellV) : Bool := decide (c.version ≥ 1000000000) || crowB c
def updB (c : CellV) (x : ChangeV) : Bool := cellB c && !c.closed && chgB c.val x && !updFull c
def updR (c : CellV) (x : ChangeV) : CellV := if updB c x then ⟨chgM c.val x, c.version + 1, c.closed, [], c.grants ++ c.line⟩ else c
def updL (c : CellV) (x : ChangeV) : List Int := if updB c x then c.line else []
def updC (c : CellV) (x : ChangeV) : Int := if cellB c then (if c.closed then 6 else if chgB c.val x then (if updFull c then 2 else 0) else 1) else 1
theorem upd_cases (c : CellV) (x : ChangeV) : (cellB c = false ∧ (0 : Int) ≤ 0) ∨ (cellB c = true ∧ c.closed = true) ∨ (cellB c = true ∧ c.closed = false ∧ chgB c.val x = false) ∨
    (cellB c = true ∧ c.closed = false ∧ chgB c.val x = true ∧ (c.version == 1000000000) = true ∧ updFull c = true) ∨
    (cellB c = true ∧ c.closed = false ∧ chgB c.val x = true ∧ (c.version == 1000000000) = false ∧ crowB c = true ∧ updFull c = true) ∨
    (cellB c = true ∧ c.closed = false ∧ chgB c.val x = true ∧ (c.version == 1000000000) = false ∧ crowB c = false ∧ updFull c = false) := by
  cases hB : cellB c
  · exact .inl ⟨rfl, by omega⟩
  cases hC : c.closed
  rotate_left
  · exact .inr (.inl ⟨rfl, rfl⟩)
  cases hX : chgB c.val x
  · exact .inr (.inr (.inl ⟨rfl, rfl, rfl⟩))
  have hv : 0 ≤ c.version ∧ c.version ≤ 1000000000 := by
    simp only [cellB, Bool.and_eq_true, decide_eq_true_eq] at hB
    exact hB.1.1.2
  by_cases hE : c.version = 1000000000
  · exact .inr (.inr (.inr (.inl ⟨rfl, rfl, rfl, by rw [hE]; rfl, by rw [updFull, decide_eq_true (by omega)]; rfl⟩)))
  have hE2 : (c.version == 1000000000) = false := by rw [beq_eq_false_iff_ne]; exact hE
  have hF : updFull c = crowB c := by rw [updFull, decide_eq_false (by omega), Bool.false_or]
  cases hW : crowB c
  · exact .inr (.inr (.inr (.inr (.inr ⟨rfl, rfl, rfl, hE2, rfl, by rw [hF, hW]⟩))))
  · exact .inr (.inr (.inr (.inr (.inl ⟨rfl, rfl, rfl, hE2, rfl, by rw [hF, hW]⟩))))
theorem upd_ver {c : CellV} (h : cellB c = true) : 0 ≤ c.version ∧ c.version ≤ 1000000000 := by
  simp only [cellB, Bool.and_eq_true, decide_eq_true_eq] at h
  exact h.1.1.2
theorem c_impl_Update (c : CellV) (x : ChangeV) {u v : AV} (hu : u = encCell false c) (hv : v = encChange false x) (hm : okMsg c.val) (hx : okMsg x.msg) (h1 : c.line.length ≤ 1048576) (h2 : c.grants.length ≤ 1048576) : Sound P 9 [u, v] (.tup [encCell true (updR c x), .lst true 1 ((updL c x).map encInt), .int .i64 (updC c x)]) := by
  subst hu hv
  have g1 : c.line.length ≤ 4194304 := by omega
  have g2 : c.grants.length ≤ 4194304 := by omega
  have g3 : c.grants.length + c.line.length ≤ 4194304 := by omega
  have wv : cellB c = true → IntKind.i64.wrap (c.version + 1) = c.version + 1 := fun h => by
    have := upd_ver h
    rw [wrap_small] <;> omega
  obtain ⟨M, hM⟩ : ∃ M, chgM c.val x = M := ⟨_, rfl⟩
  have hR : updR c x = if updB c x then ⟨M, c.version + 1, c.closed, [], c.grants ++ c.line⟩ else c := by rw [updR, hM]
  have hL : updL c x = if updB c x then c.line else [] := rfl
  have hk : updC c x = if cellB c then (if c.closed then 6 else if chgB c.val x then (if updFull c then 2 else 0) else 1) else 1 := rfl
  rw [hR, hL, hk]
  clear hR hL hk
  have hU : updB c x = (cellB c && !c.closed && chgB c.val x && !updFull c) := rfl
  have kF : Kept (AV.agg [.agg [.int .i64 c.val.kind, .int .i64 c.val.num, .str c.val.text], .int .i64 c.version, .bool c.closed, .lst false 1 (c.line.map encInt), .lst false 1 (c.grants.map encInt)] = encCell false c) := ⟨rfl⟩
  rcases upd_cases c x with ⟨a1, a2⟩ | ⟨a1, a2⟩ | ⟨a1, a2, a3⟩ | ⟨a1, a2, a3, a4, a5⟩ | ⟨a1, a2, a3, a4, a5, a6⟩ | ⟨a1, a2, a3, a4, a5, a6⟩
  all_goals (
    simp only [a1, a2, *, Bool.not_true, Bool.not_false, Bool.and_false, Bool.and_true, Bool.false_and, Bool.true_and, Bool.and_self, if_true, Bool.false_eq_true, if_false] at hU ⊢
    simp only [hU, a2, if_true, Bool.false_eq_true, if_false, List.map_nil] at kF ⊢
    clear hU
    refine snd_b hT Try.func9 Try.results9 Try.ntmps9 ?_
    (all_goals (have E0 := @encCell.eq_1))
    (all_goals (have E1 := @encMsg.eq_1))
    (all_goals (have E2 := @encChange.eq_1))
    (all_goals (have E3 := @zeroCell.eq_1))
    repeat' (first | ((with_reducible refine rest_go (by assumption) ?_); (rw [clr_eq]; rotate_left; rfl; simp only [keepB, go_sem, Nat.reduceBEq, Nat.reduceAdd, cond_true, cond_false, *]; simp only [clrG, Nat.reduceBEq, Nat.reduceAdd, cond_true, cond_false]); first | done | rfl) | refine sFnUp9F ?_ | (refine two ?_ ?_; all_goals (intro h; try simp only [Bool.not_eq_true', Bool.not_eq_false', reduceCtorEq] at h)) | fail)
    all_goals (try clear E0 E1 E2 E3)
    all_goals ((simp only [go_sem, *]); simp only [encCell, encMsg, a2]; first | done | rfl))
noncomputable abbrev ic_impl_Update := Con.mk (P := P) (f := 9) Try.call9 @c_impl_Update
attribute [instance] ic_impl_Update
end Go.Proofs.Ytbeijohahflkeaa
