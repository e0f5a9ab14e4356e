/- Contracts: cells that are right; Seen, of the program and of the specification; the law. -/
import Derived.Test.YtbeijohahflkeaaFnCl
import Derived.Test.YtbeijohahflkeaaKM
import Derived.Test.YtbeijohahflkeaaBvM5
namespace Go.Proofs.Ytbeijohahflkeaa
open Go Go.RowKit Go.Bv
set_option linter.unusedSimpArgs false
set_option linter.unusedVariables false
set_option maxRecDepth 4000
set_option maxHeartbeats 8000000
/-! The walks that end. -/
theorem wFnSe25_0 {p : Prop} (h : p := by
  have E0 := @encCell.eq_1
  have E1 := @encMsg.eq_1
  refine snd_b hT Try.func25 Try.results25 Try.ntmps25 ?_
  exact wk) : p := h
theorem wFnSe20_0 {p : Prop} (h : p := by
  have E0 := @encCell.eq_1
  have E1 := @encMsg.eq_1
  refine snd_b hT Try.func20 Try.results20 Try.ntmps20 ?_
  exact wk) : p := h
theorem wFnSe24_0 {p : Prop} (h : p := by
  have E0 := @encCell.eq_1
  have E1 := @encMsg.eq_1
  have E2 := @zeroCell.eq_1
  refine snd_b hT Try.func24 Try.results24 Try.ntmps24 ?_
  repeat' (first | refine oneF ?_ | (refine two ?_ ?_; all_goals (intro h; try simp only [Bool.not_eq_true', Bool.not_eq_false', reduceCtorEq] at h)) | fail)
  all_goals (simp only [go_sem, *]; first | done | rfl)) : p := h
theorem wFnSe18_0 {p : Prop} (h : p := by
  have E0 := @encCell.eq_1
  have E1 := @encMsg.eq_1
  have E2 := @zeroCell.eq_1
  refine snd_b hT Try.func18 Try.results18 Try.ntmps18 ?_
  repeat' (first | refine oneF ?_ | (refine two ?_ ?_; all_goals (intro h; try simp only [Bool.not_eq_true', Bool.not_eq_false', reduceCtorEq] at h)) | fail)
  all_goals (simp only [go_sem, *]; first | done | rfl)) : p := h
-- VIEWS

theorem noSh_Msg0 (x : MsgV) : noSh (encMsg false x) = true := by simp only [encMsg, noSh, noShs, Bool.and_self]
attribute [go_sem] noSh_Msg0
def cellB (c : CellV) : Bool := msgB c.val && (decide (c.version ≥ 0) && decide (c.version ≤ 1000000000)) && apartB c.line c.grants && !(c.closed && decide ((c.line.length : Int) > 0))
theorem nodup_take {A : List Int} (h : ∀ i id, A[i]? = some id → ((A.take i).any (· == id)) = false) : A.Nodup := by
  rw [List.Nodup, List.pairwise_iff_getElem]
  intro i j hi hj hij e
  have := h j A[j] (by simp [hj])
  rw [List.any_eq_false] at this
  refine this A[i] ?_ (by simp [e])
  rw [List.mem_take_iff_getElem]
  exact ⟨i, by omega, rfl⟩
theorem clients_nodup {f : List Int} (h : clientsB f = true) : f.Nodup := nodup_take fun i id hi => by
  rw [clientsB, Bool.and_eq_true, allQ, List.all_eq_true] at h
  have := h.1 i (by simpa using (List.getElem?_eq_some_iff.1 hi).1)
  rw [cliQ_at hi, Bool.and_eq_true] at this
  simpa using this.2
theorem cell_nodup {c : CellV} (h : cellB c = true) : c.grants.Nodup := by
  simp only [cellB, apartB, Bool.and_eq_true] at h
  exact clients_nodup h.1.2.1.2
theorem c_impl_CellOk (c : CellV) {u : AV} (hu : u = encCell false c) (hm : okMsg c.val) (h1 : c.line.length ≤ 4194304) (h2 : c.grants.length ≤ 4194304) : Sound P 25 [u] (.bool (cellB c)) := by
  subst hu
  obtain ⟨b, hb⟩ : ∃ b, cellB c = b := ⟨_, rfl⟩
  rw [hb]
  unfold cellB at hb
  cases hM : msgB c.val <;> cases hV : (decide (c.version ≥ 0) && decide (c.version ≤ 1000000000)) <;> cases hA : apartB c.line c.grants <;> cases hC : c.closed
  all_goals (
    simp only [hM, hV, hA, hC, Bool.and_self, Bool.and_false, Bool.false_and, Bool.true_and, Bool.and_true, Bool.not_false, Bool.not_true] at hb
    subst hb
    exact wFnSe25_0)
noncomputable abbrev ic_impl_CellOk := Con.mk (P := P) (f := 25) Try.call25 @c_impl_CellOk
attribute [instance] ic_impl_CellOk
theorem c_spec_CellOk (c : CellV) {u : AV} (hu : u = encCell false c) (hm : okMsg c.val) (h1 : c.line.length ≤ 4194304) (h2 : c.grants.length ≤ 4194304) : Sound P 20 [u] (.bool (cellB c)) := by
  subst hu
  obtain ⟨b, hb⟩ : ∃ b, cellB c = b := ⟨_, rfl⟩
  rw [hb]
  unfold cellB at hb
  cases hM : msgB c.val <;> cases hV : (decide (c.version ≥ 0) && decide (c.version ≤ 1000000000)) <;> cases hA : apartB c.line c.grants <;> cases hC : c.closed
  all_goals (
    simp only [hM, hV, hA, hC, Bool.and_self, Bool.and_false, Bool.false_and, Bool.true_and, Bool.and_true, Bool.not_false, Bool.not_true] at hb
    subst hb
    exact wFnSe20_0)
noncomputable abbrev ic_spec_CellOk := Con.mk (P := P) (f := 20) Try.call20 @c_spec_CellOk
attribute [instance] ic_spec_CellOk
theorem c_impl_copyCell (c : CellV) {u : AV} (hu : u = encCell false c) (h1 : c.line.length ≤ 4194304) (h2 : c.grants.length ≤ 4194304) : Sound P 24 [u] (encCell true c) := by
  subst hu
  exact wFnSe24_0
noncomputable abbrev ic_impl_copyCell := Con.mk (P := P) (f := 24) Try.call24 @c_impl_copyCell
attribute [instance] ic_impl_copyCell
theorem c_spec_l7Copy (c : CellV) {u : AV} (hu : u = encCell false c) (h1 : c.line.length ≤ 4194304) (h2 : c.grants.length ≤ 4194304) : Sound P 18 [u] (encCell true c) := by
  subst hu
  exact wFnSe18_0
noncomputable abbrev ic_spec_l7Copy := Con.mk (P := P) (f := 18) Try.call18 @c_spec_l7Copy
attribute [instance] ic_spec_l7Copy
def openC (c : CellV) : Int := if c.closed then 6 else 0
def seenB (c : CellV) (who : Int) : Bool := cellB c && !(c.line.any (· == who)) && c.grants.any (· == who)
def seenR (c : CellV) (who : Int) : CellV := if seenB c who then { c with grants := c.grants.filter fun x => !(x == who) } else c
def noMsgV : MsgV := ⟨0, 0, { data := #[] }⟩
def seenM (c : CellV) (who : Int) : MsgV := if seenB c who then c.val else noMsgV
def seenN (c : CellV) (who : Int) : Int := if seenB c who then c.version else 0
def seenC (c : CellV) (who : Int) : Int := if cellB c then (if c.line.any (· == who) then 4 else if c.grants.any (· == who) then openC c else 3) else 1
theorem seen_w (c : CellV) (who : Int) : wCell (seenR c who) ≤ wCell c := by
  unfold seenR
  split
  · simp only [wCell, wIntS, sumL_zero wInt fun _ => rfl, Nat.add_zero]
    have := List.length_filter_le (fun x => !(x == who)) c.grants
    omega
  · exact Nat.le_refl _
theorem seen_m (c : CellV) (who : Int) : wMsg (seenM c who) ≤ wCell c := by
  unfold seenM
  split
  · simp only [wCell]; omega
  · exact Nat.zero_le _
end Go.Proofs.Ytbeijohahflkeaa
