/- Contracts: what one term says of a message. Contracts: what a filter leaves of a message, of the program and of the specification. -/
import Derived.Test.YtlgdijjkegeccaaGreatKT
import Derived.Test.YtlgdijjkegeccaaGreatFnY
import Derived.Test.YtlgdijjkegeccaaGreatBvLs
import Derived.Test.YtlgdijjkegeccaaGreatBvM5
import Derived.Test.YtlgdijjkegeccaaGreatShelf
import Derived.Laws.Strings
import Derived.Test.YtlgdijjkegeccaaGreatKG
namespace Go.Proofs.YtlgdijjkegeccaaGreat
open Go Go.RowKit Go.Bv
set_option linter.unusedSimpArgs false
set_option linter.unusedVariables false
set_option maxRecDepth 4000
set_option maxHeartbeats 1000000
/-! The walks that end. -/
theorem wFnPa95_0 {p : Prop} (h : p := by
  exact wk) : p := h

def startsS (s p : ByteArray) : Bool := Lib.hasPrefix s.data.toList p.data.toList
def holdsS (s p : ByteArray) : Bool := Lib.contains s.data.toList p.data.toList
theorem c_strings_HasPrefix (s p : ByteArray) : Sound P 97 [.str s, .str p] (.bool (startsS s p)) :=
  sound_str2 (c := .bool (startsS s p)) rfl (by simp [Ok]) (by simp [NR, Pl]) fun w _ => Tryz.strings_HasPrefix s p w
noncomputable abbrev ic_strings_HasPrefix := Con.mk (P := P) (f := 97) Tryz.call97 @c_strings_HasPrefix
attribute [instance] ic_strings_HasPrefix
theorem c_strings_Contains (s p : ByteArray) (hs : s.size < 4294967281) : Sound P 98 [.str s, .str p] (.bool (holdsS s p)) :=
  sound_str2 (c := .bool (holdsS s p)) rfl (by simp [Ok]) (by simp [NR, Pl]) fun w hw => by
    obtain ⟨m, hm⟩ := hw.maxLen (g := 0) (by kernel_rfl)
    exact Tryz.strings_Contains s p m w hs hm
noncomputable abbrev ic_strings_Contains := Con.mk (P := P) (f := 98) Tryz.call98 @c_strings_Contains
attribute [instance] ic_strings_Contains
theorem size_list (s : ByteArray) : s.data.toList.length = s.size := Array.length_toList
theorem ext_list (s : ByteArray) (a b : Nat) : (s.extract a b).toList = (s.data.toList.drop a).take (b - a) := by
  rw [ByteArray.toList_eq]
  simp [ByteArray.data_extract, Array.toList_extract, List.extract_eq_take_drop]
theorem starts_long {s p : ByteArray} (h : ¬ p.size ≤ s.size) : startsS s p = false := by
  rw [startsS, Lib.hasPrefix, ← Bool.not_eq_true, List.isPrefixOf_iff_prefix]
  intro hp
  have := hp.length_le
  rw [size_list, size_list] at this
  exact h this
theorem starts_ext {s p : ByteArray} (h : p.size ≤ s.size) : ((s.extract 0 p.size).toList == p.toList) = startsS s p := by
  have := Lib.occAt_iff_take s.data.toList p.data.toList 0 (by rw [size_list, size_list]; omega)
  rw [Lib.occAt, List.drop_zero, size_list] at this
  rw [startsS, Lib.hasPrefix, this, ext_list, ByteArray.toList_eq, List.drop_zero, Nat.sub_zero]
/-- No instance begins ahead of i. -/
def NoneUpto (s p : ByteArray) (i : Nat) : Prop := ∀ j, j < i → Lib.occAt s.data.toList p.data.toList j = false
theorem occ_ext {s p : ByteArray} {i : Nat} (h : i + p.size ≤ s.size) : ((s.extract i (i + p.size)).toList == p.toList) = Lib.occAt s.data.toList p.data.toList i := by
  rw [Lib.occAt_iff_take _ _ _ (by rw [size_list, size_list]; exact h), ext_list, ByteArray.toList_eq p, size_list, Nat.add_sub_cancel_left]
theorem holds_at {s p : ByteArray} {i : Nat} (hi : i ≤ s.size) (hn : NoneUpto s p i) (h : Lib.occAt s.data.toList p.data.toList i = true) : holdsS s p = true := by
  rw [holdsS, Lib.contains, Lib.index_first (by rw [size_list]; exact hi) h hn]
  exact decide_eq_true (by omega)
theorem holds_not {s p : ByteArray} {i : Nat} (hp : p.data.toList ≠ []) (hn : NoneUpto s p i) (hi : s.size < i + p.size) : holdsS s p = false := by
  have : Lib.index s.data.toList p.data.toList = -1 := Lib.index_none fun j hj => by
    cases hc : Lib.occAt s.data.toList p.data.toList j with
    | false => rfl
    | true =>
      rcases Lib.occAt_room hc with h | h
      · rw [size_list, size_list] at h
        rw [hn j (by omega)] at hc; cases hc
      · exact absurd h hp
  rw [holdsS, Lib.contains, this]; rfl
theorem c_spec_l8Holds (s p : ByteArray) (hs : s.size < 4611686018427387904) (hps : p.size < 4611686018427387904) (hp : p.data.toList ≠ []) : Sound P 95 [.str s, .str p] (.bool (holdsS s p)) := by
  have hp1 : 0 < p.size := by rw [← size_list]; exact List.length_pos_iff.2 hp
  refine snd_b hT Tryz.func95 Tryz.results95 Tryz.ntmps95 ?_
  repeat' (first | refine one ?_ | (refine two ?_ ?_; all_goals (intro h; try simp only [Bool.not_eq_true', Bool.not_eq_false', reduceCtorEq] at h)) | fail)
  refine aw_loop [2, 3, 6, 7, 8, 9, 10, 11, 12, 13, 14, 15, 16, 17, 18, 19, 20, 21, 22, 23] (fun n S => ∃ i : Nat, n = s.size + 1 - i ∧ i ≤ s.size + 1 ∧ NoneUpto s p i ∧ S = [.str s, .str p, .undef, .undef, .bool false, .int .i64 i, .undef, .undef, .undef, .undef, .undef, .undef, .undef, .undef, .undef, .undef, .undef, .undef, .undef, .undef, .undef, .undef, .undef, .undef]) (s.size + 1) ?_ ?_
  · refine ⟨0, by simp, by omega, fun j hj => by omega, ?_⟩
    simp only [clr, go_sem]
    first | done | rfl
  rintro n S ⟨i, hn, hi, hno, rfl⟩
  have w1 : IntKind.i64.wrap ((i : Int) + 1) = ((i + 1 : Nat) : Int) := by rw [wrap_small] <;> omega
  have w2 : IntKind.i64.wrap ((i : Int) + (p.size : Int)) = ((i + p.size : Nat) : Int) := by rw [wrap_small] <;> omega
  by_cases hlt : i + p.size ≤ s.size
  · have hd : decide (((i + p.size : Nat) : Int) ≤ (s.size : Int)) = true := decide_eq_true (by omega)
    have he := occ_ext hlt
    have hi0 : (0 : Int) ≤ (i : Int) := by omega
    have hi1 : (i : Int) ≤ ((i + p.size : Nat) : Int) := by omega
    have hi2 : (0 : Int) ≤ ((i + p.size : Nat) : Int) := by omega
    have hi3 : ((i + p.size : Nat) : Int) ≤ (s.size : Int) := by omega
    cases ho : Lib.occAt s.data.toList p.data.toList i with
    | true =>
      have hv := holds_at (by omega) hno ho
      rw [ho] at he
      rw [hv]
      clear hno ho hv hp hn
      exact wFnPa95_0
    | false =>
      rw [ho] at he
      have hno' : NoneUpto s p (i + 1) := fun j hj => by
        rcases Nat.lt_or_ge j i with h | h
        · exact hno j h
        · rw [show j = i by omega]; exact ho
      clear hno ho hp
      repeat' (first | refine one ?_ | (refine two ?_ ?_; all_goals (intro h; try simp only [Bool.not_eq_true', Bool.not_eq_false', reduceCtorEq] at h)) | fail)
      all_goals (
        refine ⟨s.size + 1 - (i + 1), by omega, i + 1, rfl, by omega, hno', ?_⟩
        simp only [clr, go_sem]
        first | done | rfl)
  · have hd : decide (((i + p.size : Nat) : Int) ≤ (s.size : Int)) = false := decide_eq_false (by omega)
    have hv := holds_not hp hno (by omega)
    rw [hv]
    clear hno hv hp hn
    exact wFnPa95_0
noncomputable abbrev ic_spec_l8Holds := Con.mk (P := P) (f := 95) Tryz.call95 @c_spec_l8Holds
attribute [instance] ic_spec_l8Holds
/-- What a term that takes none says. -/
def saysB (t : TermV) (m : MsgV) : Bool :=
  if t.op = 2 then m.kind == 1
  else if t.op = 3 then m.kind == 2
  else if t.op = 4 then m.kind == 1 && decide (m.num < t.num)
  else if t.op = 5 then m.kind == 1 && m.num.tmod t.num == 0
  else if t.op = 6 then m.kind == 2 && startsS m.text t.text
  else if t.op = 7 then m.kind == 2 && holdsS m.text t.text
  else true
theorem msg_kind {m : MsgV} (h : msgB m = true) : m.kind = 1 ∨ (m.kind = 2 ∧ m.text.size ≤ 40) := by
  unfold msgB at h
  split at h
  · exact .inl ‹_›
  · split at h
    · simp only [Bool.and_eq_true, decide_eq_true_eq] at h
      exact .inr ⟨‹_›, by omega⟩
    · cases h
theorem part_ne {s : ByteArray} (h : partB s = true) : s.data.toList ≠ [] ∧ s.size ≤ 10 := by
  simp only [partB, Bool.and_eq_true, decide_eq_true_eq] at h
  refine ⟨fun e => ?_, by omega⟩
  have := size_list s
  rw [e] at this
  simp at this
  omega
end Go.Proofs.YtlgdijjkegeccaaGreat
namespace Go.Proofs.YtlgdijjkegeccaaGreat
open Go Go.RowKit Go.Bv
set_option linter.unusedSimpArgs false
set_option linter.unusedVariables false
set_option maxRecDepth 4000
set_option maxHeartbeats 4000000

/-- One term turns the stack. -/
def bstep (m : MsgV) (st : List Bool) (t : TermV) : List Bool :=
  if t.op = 8 then st.take (st.length - 1) ++ [!(st[st.length - 1]?.getD false)]
  else if t.op = 9 then st.take (st.length - 2) ++ [st[st.length - 2]?.getD false && st[st.length - 1]?.getD false]
  else if t.op = 10 then st.take (st.length - 2) ++ [st[st.length - 2]?.getD false || st[st.length - 1]?.getD false]
  else st ++ [saysB t m]
def bstack (f : List TermV) (m : MsgV) : List Bool := f.foldl (bstep m) []
/-- What a right filter says of a right message. -/
def leftB (f : List TermV) (m : MsgV) : Bool := match (bstack f m)[0]? with
  | some b => b
  | none => true
theorem bstack_succ {f : List TermV} {i : Nat} {t : TermV} (h : f[i]? = some t) (m : MsgV) : bstack (f.take (i + 1)) m = bstep m (bstack (f.take i) m) t := by
  unfold bstack
  rw [List.take_add_one, h, Option.toList_some, List.foldl_append]; rfl
theorem bstep_len {m : MsgV} {st : List Bool} {t : TermV} (h : takesI t.op ≤ (st.length : Int)) : ((bstep m st t).length : Int) = st.length + (1 - takesI t.op) := by
  unfold takesI at *
  unfold bstep
  repeat' split
  all_goals simp_all
  all_goals omega
theorem run1_stack {f : List TermV} (m : MsgV) : ∀ (i : Nat) (k : Int), i ≤ f.length → run1 (f.take i) 0 = some k → ((bstack (f.take i) m).length : Int) = k := by
  intro i
  induction i with
  | zero => intro k _ h; simp only [List.take_zero, run1, Option.some.injEq] at h; subst h; simp [bstack]
  | succ i ih =>
    intro k hi h
    have hs : f[i]? = some f[i] := List.getElem?_eq_getElem _
    rw [run1_take hs] at h
    cases hr : run1 (f.take i) 0 with
    | none => rw [hr] at h; cases h
    | some n =>
      rw [hr] at h
      simp only [step1] at h
      split at h
      · rename_i hc
        simp only [Option.some.injEq] at h
        have hl := ih n (by omega) hr
        rw [bstack_succ hs, bstep_len (by omega), hl]
        exact h
      · cases h
/-- What stands at each term. -/
theorem left_at {f : List TermV} (m : MsgV) (hf : filterB f = true) {i : Nat} {t : TermV} (h : f[i]? = some t) : termB t.op t.num t.text = true ∧ takesI t.op ≤ ((bstack (f.take i) m).length : Int) := by
  have hi := (List.getElem?_eq_some_iff.1 h).1
  have h2 : run1 (f.take (i + 1)) 0 ≠ none := fun hn => by rw [run1_none hn] at hf; cases hf
  rw [run1_take h] at h2
  cases hr : run1 (f.take i) 0 with
  | none => rw [hr] at h2; exact absurd rfl h2
  | some n =>
    rw [hr] at h2
    simp only [step1] at h2
    split at h2
    · rename_i hc
      have := run1_stack m i n (by omega) hr
      exact ⟨hc.1, by omega⟩
    · exact absurd rfl h2
theorem left_end {f : List TermV} (m : MsgV) (hf : filterB f = true) : f.length ≤ 12 ∧ ((f = [] ∧ bstack f m = []) ∨ (f ≠ [] ∧ ∃ b, bstack f m = [b])) := by
  have hl : f.length ≤ 12 := by
    unfold filterB at hf
    split at hf
    · simp only [Bool.and_eq_true, decide_eq_true_eq] at hf; omega
    · cases hf
  refine ⟨hl, ?_⟩
  unfold filterB at hf
  split at hf
  · rename_i n hn
    have hs := run1_stack (f := f) m f.length n (Nat.le_refl _) (by rw [List.take_length]; exact hn)
    rw [List.take_length] at hs
    simp only [Bool.and_eq_true, Bool.or_eq_true, beq_iff_eq] at hf
    rcases hf.2 with h | h
    · subst h
      refine .inr ⟨fun e => ?_, List.length_eq_one_iff.1 (by omega)⟩
      subst e
      simp [bstack] at hs
    · have : f = [] := List.eq_nil_of_length_eq_zero (by omega)
      subst this
      exact .inl ⟨rfl, rfl⟩
  · cases hf
theorem encB_at {st : List Bool} {i : Nat} {b : Bool} (h : st[i]? = some b) : (st.map encBool)[i]? = some (.bool b) := by rw [List.getElem?_map, h]; rfl
/-- The parts of a step. -/
theorem bstep_not {m : MsgV} {st : List Bool} {t : TermV} {p : Nat} {b : Bool} (h8 : t.op = 8) (hp : st.length = p + 1) (hb : st[p]? = some b) : (st.map encBool).set p (.bool (!b)) = (bstep m st t).map encBool := by
  have hs : st = st.take p ++ [b] := by
    have := List.take_add_one (l := st) (i := p)
    rw [List.take_of_length_le (by omega), hb] at this
    exact this
  have h1 : st.length - 1 = p := by omega
  simp only [bstep, h8, if_true, h1, hb, Option.getD_some, List.map_append, List.map_cons, List.map_nil]
  have hl : ((st.take p).map encBool).length = p := by simp; omega
  conv => lhs; rw [hs, List.map_append, List.set_append_right _ _ (by omega), hl, Nat.sub_self]
  rfl
theorem bstep_two {m : MsgV} {st : List Bool} {t : TermV} {q : Nat} {a b : Bool} (h9 : t.op = 9 ∨ t.op = 10) (hq : st.length = q + 2) (ha : st[q]? = some a) (hb : st[q + 1]? = some b) {x : Bool} (hx : x = if t.op = 9 then a && b else a || b) :
    List.take q (st.map encBool) ++ [.bool x] = (bstep m st t).map encBool ∧ List.take (q + 1) ((st.map encBool).set q (.bool x)) = (bstep m st t).map encBool := by
  have h1 : st.length - 2 = q := by omega
  have h2 : st.length - 1 = q + 1 := by omega
  have hst : bstep m st t = st.take q ++ [x] := by
    rcases h9 with h | h
    · simp only [bstep, h, h1, h2, ha, hb, Option.getD_some, hx]; rfl
    · simp only [bstep, h, h1, h2, ha, hb, Option.getD_some, hx]; rfl
  rw [hst, List.map_append, List.map_take]
  refine ⟨rfl, ?_⟩
  rw [List.take_add_one, List.take_set_of_le (Nat.le_refl _), List.getElem?_set_self (by simp; omega)]
  rfl
theorem bstep_lay {m : MsgV} {st : List Bool} {t : TermV} (h : takesI t.op = 0) : bstep m st t = st ++ [saysB t m] := by
  unfold takesI at h
  unfold bstep
  rw [if_neg (by intro e; simp [e] at h), if_neg (by intro e; simp [e] at h), if_neg (by intro e; simp [e] at h)]
theorem takes_cases {o : Int} (h : takesI o ≤ 2) : (takesI o = 0 ∧ (o == 8) = false ∧ (o == 9) = false ∧ (o == 10) = false) ∨ (o = 8 ∧ takesI o = 1) ∨ (o = 9 ∧ takesI o = 2) ∨ (o = 10 ∧ takesI o = 2) := by
  unfold takesI at *
  by_cases h8 : o = 8
  · exact .inr (.inl ⟨h8, by simp [h8]⟩)
  by_cases h9 : o = 9
  · exact .inr (.inr (.inl ⟨h9, by simp [h9]⟩))
  by_cases h10 : o = 10
  · exact .inr (.inr (.inr ⟨h10, by simp [h10]⟩))
  exact .inl ⟨by simp [h8, h9, h10], by simp [h8], by simp [h9], by simp [h10]⟩
end Go.Proofs.YtlgdijjkegeccaaGreat
