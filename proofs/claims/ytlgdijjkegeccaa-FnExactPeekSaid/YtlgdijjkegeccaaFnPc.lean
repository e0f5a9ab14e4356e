/- Contracts: what a filter leaves of a message, of the program and of the specification. -/
import Derived.Test.YtlgdijjkegeccaaFnPa
import Derived.Test.YtlgdijjkegeccaaGlBool
import Derived.Test.YtlgdijjkegeccaaBvM5
namespace Go.Proofs.Ytlgdijjkegeccaa
open Go Go.RowKit Go.Bv
set_option linter.unusedSimpArgs false
set_option linter.unusedVariables false
set_option maxRecDepth 4000
set_option maxHeartbeats 4000000

/-- One term turns the stack. -/
def bstep (m : MsgV) (st : List Bool) (t : TermV) : List Bool :=
  if t.op = 8 then st.take (st.length - 1) ++ [!(st[st.length - 1]?.getD false)]
  else if t.op = 9 then st.take (st.length - 2) ++ [st[st.length - 2]?.getD false && st[st.length - 1]?.getD false]
  else if t.op = 10 then st.take (st.length - 2) ++ [st[st.length - 2]?.getD false || st[st.length - 1]?.getD false]
  else st ++ [saysB t m]
def bstack (f : List TermV) (m : MsgV) : List Bool := f.foldl (bstep m) []
/-- What a right filter says of a right message. -/
def leftB (f : List TermV) (m : MsgV) : Bool := match (bstack f m)[0]? with
  | some b => b
  | none => true
theorem bstack_succ {f : List TermV} {i : Nat} {t : TermV} (h : f[i]? = some t) (m : MsgV) : bstack (f.take (i + 1)) m = bstep m (bstack (f.take i) m) t := by
  unfold bstack
  rw [List.take_add_one, h, Option.toList_some, List.foldl_append]; rfl
theorem bstep_len {m : MsgV} {st : List Bool} {t : TermV} (h : takesI t.op ≤ (st.length : Int)) : ((bstep m st t).length : Int) = st.length + (1 - takesI t.op) := by
  unfold takesI at *
  unfold bstep
  repeat' split
  all_goals simp_all
  all_goals omega
theorem run1_stack {f : List TermV} (m : MsgV) : ∀ (i : Nat) (k : Int), i ≤ f.length → run1 (f.take i) 0 = some k → ((bstack (f.take i) m).length : Int) = k := by
  intro i
  induction i with
  | zero => intro k _ h; simp only [List.take_zero, run1, Option.some.injEq] at h; subst h; simp [bstack]
  | succ i ih =>
    intro k hi h
    have hs : f[i]? = some f[i] := List.getElem?_eq_getElem _
    rw [run1_take hs] at h
    cases hr : run1 (f.take i) 0 with
    | none => rw [hr] at h; cases h
    | some n =>
      rw [hr] at h
      simp only [step1] at h
      split at h
      · rename_i hc
        simp only [Option.some.injEq] at h
        have hl := ih n (by omega) hr
        rw [bstack_succ hs, bstep_len (by omega), hl]
        exact h
      · cases h
/-- What stands at each term. -/
theorem left_at {f : List TermV} (m : MsgV) (hf : filterB f = true) {i : Nat} {t : TermV} (h : f[i]? = some t) : termB t.op t.num t.text = true ∧ takesI t.op ≤ ((bstack (f.take i) m).length : Int) := by
  have hi := (List.getElem?_eq_some_iff.1 h).1
  have h2 : run1 (f.take (i + 1)) 0 ≠ none := fun hn => by rw [run1_none hn] at hf; cases hf
  rw [run1_take h] at h2
  cases hr : run1 (f.take i) 0 with
  | none => rw [hr] at h2; exact absurd rfl h2
  | some n =>
    rw [hr] at h2
    simp only [step1] at h2
    split at h2
    · rename_i hc
      have := run1_stack m i n (by omega) hr
      exact ⟨hc.1, by omega⟩
    · exact absurd rfl h2
theorem left_end {f : List TermV} (m : MsgV) (hf : filterB f = true) : f.length ≤ 12 ∧ ((f = [] ∧ bstack f m = []) ∨ (f ≠ [] ∧ ∃ b, bstack f m = [b])) := by
  have hl : f.length ≤ 12 := by
    unfold filterB at hf
    split at hf
    · simp only [Bool.and_eq_true, decide_eq_true_eq] at hf; omega
    · cases hf
  refine ⟨hl, ?_⟩
  unfold filterB at hf
  split at hf
  · rename_i n hn
    have hs := run1_stack (f := f) m f.length n (Nat.le_refl _) (by rw [List.take_length]; exact hn)
    rw [List.take_length] at hs
    simp only [Bool.and_eq_true, Bool.or_eq_true, beq_iff_eq] at hf
    rcases hf.2 with h | h
    · subst h
      refine .inr ⟨fun e => ?_, List.length_eq_one_iff.1 (by omega)⟩
      subst e
      simp [bstack] at hs
    · have : f = [] := List.eq_nil_of_length_eq_zero (by omega)
      subst this
      exact .inl ⟨rfl, rfl⟩
  · cases hf
theorem encB_at {st : List Bool} {i : Nat} {b : Bool} (h : st[i]? = some b) : (st.map encBool)[i]? = some (.bool b) := by rw [List.getElem?_map, h]; rfl
/-- The parts of a step. -/
theorem bstep_not {m : MsgV} {st : List Bool} {t : TermV} {p : Nat} {b : Bool} (h8 : t.op = 8) (hp : st.length = p + 1) (hb : st[p]? = some b) : (st.map encBool).set p (.bool (!b)) = (bstep m st t).map encBool := by
  have hs : st = st.take p ++ [b] := by
    have := List.take_add_one (l := st) (i := p)
    rw [List.take_of_length_le (by omega), hb] at this
    exact this
  have h1 : st.length - 1 = p := by omega
  simp only [bstep, h8, if_true, h1, hb, Option.getD_some, List.map_append, List.map_cons, List.map_nil]
  have hl : ((st.take p).map encBool).length = p := by simp; omega
  conv => lhs; rw [hs, List.map_append, List.set_append_right _ _ (by omega), hl, Nat.sub_self]
  rfl
theorem bstep_two {m : MsgV} {st : List Bool} {t : TermV} {q : Nat} {a b : Bool} (h9 : t.op = 9 ∨ t.op = 10) (hq : st.length = q + 2) (ha : st[q]? = some a) (hb : st[q + 1]? = some b) {x : Bool} (hx : x = if t.op = 9 then a && b else a || b) :
    List.take q (st.map encBool) ++ [.bool x] = (bstep m st t).map encBool ∧ List.take (q + 1) ((st.map encBool).set q (.bool x)) = (bstep m st t).map encBool := by
  have h1 : st.length - 2 = q := by omega
  have h2 : st.length - 1 = q + 1 := by omega
  have hst : bstep m st t = st.take q ++ [x] := by
    rcases h9 with h | h
    · simp only [bstep, h, h1, h2, ha, hb, Option.getD_some, hx]; rfl
    · simp only [bstep, h, h1, h2, ha, hb, Option.getD_some, hx]; rfl
  rw [hst, List.map_append, List.map_take]
  refine ⟨rfl, ?_⟩
  rw [List.take_add_one, List.take_set_of_le (Nat.le_refl _), List.getElem?_set_self (by simp; omega)]
  rfl
theorem bstep_lay {m : MsgV} {st : List Bool} {t : TermV} (h : takesI t.op = 0) : bstep m st t = st ++ [saysB t m] := by
  unfold takesI at h
  unfold bstep
  rw [if_neg (by intro e; simp [e] at h), if_neg (by intro e; simp [e] at h), if_neg (by intro e; simp [e] at h)]
theorem takes_cases {o : Int} (h : takesI o ≤ 2) : (takesI o = 0 ∧ (o == 8) = false ∧ (o == 9) = false ∧ (o == 10) = false) ∨ (o = 8 ∧ takesI o = 1) ∨ (o = 9 ∧ takesI o = 2) ∨ (o = 10 ∧ takesI o = 2) := by
  unfold takesI at *
  by_cases h8 : o = 8
  · exact .inr (.inl ⟨h8, by simp [h8]⟩)
  by_cases h9 : o = 9
  · exact .inr (.inr (.inl ⟨h9, by simp [h9]⟩))
  by_cases h10 : o = 10
  · exact .inr (.inr (.inr ⟨h10, by simp [h10]⟩))
  exact .inl ⟨by simp [h8, h9, h10], by simp [h8], by simp [h9], by simp [h10]⟩
end Go.Proofs.Ytlgdijjkegeccaa
