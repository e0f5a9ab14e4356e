/- Names: the parts as spec.l11Parts lays them; right names and patterns. -/
import Derived.Test.YtffpfjnakhpheaaDoorFnNb
import Derived.Test.YtffpfjnakhpheaaDoorFnXString
import Derived.Test.YtffpfjnakhpheaaDoorBvM5
namespace Go.Proofs.YtffpfjnakhpheaaDoor
open Go Go.RowKit Go.Bv
set_option linter.unusedSimpArgs false
set_option linter.unusedVariables false
set_option maxRecDepth 4000
set_option maxHeartbeats 4000000
/-! The walks that end. -/
theorem wFnNc19_0 {p : Prop} (h : p := by
  repeat' (first | refine oneF ?_ | (refine two ?_ ?_; all_goals (intro h; try simp only [Bool.not_eq_true', Bool.not_eq_false', reduceCtorEq] at h)) | fail)
  all_goals (simp only [go_sem, *]; first | done | rfl)) : p := h
theorem wFnNc20_0 {p : Prop} (h : p := by
  refine snd_b hT Tryd.func20 Tryd.results20 Tryd.ntmps20 ?_
  repeat' (first | refine oneF ?_ | (refine two ?_ ?_; all_goals (intro h; try simp only [Bool.not_eq_true', Bool.not_eq_false', reduceCtorEq] at h)) | fail)
  all_goals (simp only [go_sem, *]; first | done | rfl)) : p := h
theorem wFnNc20_1 {p : Prop} (h : p := by
  repeat' (first | refine oneF ?_ | (refine two ?_ ?_; all_goals (intro h; try simp only [Bool.not_eq_true', Bool.not_eq_false', reduceCtorEq] at h)) | fail)
  all_goals (simp only [go_sem, *]; first | done | rfl)) : p := h
theorem wFnNc20_2 {p : Prop} (h : p := by
  have E0 := @encString.eq_1
  repeat' (first | refine oneF ?_ | (refine two ?_ ?_; all_goals (intro h; try simp only [Bool.not_eq_true', Bool.not_eq_false', reduceCtorEq] at h)) | fail)
  all_goals (simp only [go_sem, *]; first | done | rfl)) : p := h
theorem wFnNc9_0 {p : Prop} (h : p := by
  refine snd_b hT Tryd.func9 Tryd.results9 Tryd.ntmps9 ?_
  exact wk) : p := h
theorem wFnNc18_0 {p : Prop} (h : p := by
  refine snd_b hT Tryd.func18 Tryd.results18 Tryd.ntmps18 ?_
  exact wk) : p := h
theorem wFnNc25_0 {p : Prop} (h : p := by
  have E0 := @encString.eq_1
  refine snd_b hT Tryd.func25 Tryd.results25 Tryd.ntmps25 ?_
  exact wk) : p := h
theorem wFnNc16_0 {p : Prop} (h : p := by
  refine snd_b hT Tryd.func16 Tryd.results16 Tryd.ntmps16 ?_
  exact wk) : p := h

theorem partsN_le (s : ByteArray) : ∀ k, (partsN s k).2 ≤ k ∧ (partsN s k).1.length ≤ k
  | 0 => by simp [partsN]
  | k + 1 => by
    have := partsN_le s k
    rw [partsN]
    split
    · simp only [List.length_append, List.length_cons, List.length_nil]; omega
    · omega
theorem dot_at {s : ByteArray} {k : Nat} {b : UInt8} (h : s[k]? = some b) : dotAt s k = ((b.toNat : Int) == 46) := by
  have e : s.data.toList[k]? = some b := by rw [Array.getElem?_toList]; exact h
  rw [dotAt, e]
  by_cases hb : b = 46
  · subst hb; rfl
  · have h1 : ((b.toNat : Int) == 46) = false := by
      rw [beq_eq_false_iff_ne]
      intro h2
      exact hb (UInt8.toNat_inj.1 (by rw [show (46 : UInt8).toNat = 46 from rfl]; omega))
    rw [h1]
    simpa using hb
theorem c_spec_l11Parts (s : ByteArray) (hs : s.size ≤ 1048576) : Sound P 19 [.str s] (.lst true 1 ((partsS s).map encString)) := by
  refine snd_b hT Tryd.func19 Tryd.results19 Tryd.ntmps19 ?_
  repeat' (first | refine oneF ?_ | (refine two ?_ ?_; all_goals (intro h; try simp only [Bool.not_eq_true', Bool.not_eq_false', reduceCtorEq] at h)) | fail)
  refine aw_loop [1, 2, 6, 7, 8, 9, 10, 11, 12, 13, 14, 15, 16, 17, 18, 19, 20, 21, 22, 23, 24, 25, 26, 27, 28, 29, 30, 31, 32] (fun n S => ∃ (i : Nat) (out : List ByteArray) (a : Nat), n = s.size + 1 - i ∧ i ≤ s.size + 1 ∧ partsN s i = (out, a) ∧ S = [.str s, .undef, .undef, .lst true 1 (out.map encString), .int .i64 a, .int .i64 i, .undef, .undef, .undef, .undef, .undef, .undef, .undef, .undef, .undef, .undef, .undef, .undef, .undef, .undef, .undef, .undef, .undef, .undef, .undef, .undef, .undef, .undef, .undef, .undef, .undef, .undef, .undef]) (s.size + 1) ?_ ?_
  · refine ⟨0, [], 0, by simp, by omega, rfl, ?_⟩
    rw [show ([] : List ByteArray).map encString = [] from rfl]
    (rw [clr_eq]; rotate_left; rfl; simp only [keepB, go_sem, Nat.reduceBEq, Nat.reduceAdd, cond_true, cond_false, *]; simp only [clrG, Nat.reduceBEq, Nat.reduceAdd, cond_true, cond_false])
    first | done | rfl
  rintro n S ⟨i, out, a, hn, hi, hp, rfl⟩
  have hw : IntKind.i64.wrap ((i : Int) + 1) = ((i + 1 : Nat) : Int) := by rw [wrap_small] <;> omega
  have hle := partsN_le s i
  rw [hp] at hle
  obtain ⟨ha, ho⟩ := hle
  simp only at ha ho
  have hstep : partsN s (i + 1) = if i = s.size ∨ dotAt s i = true then (out ++ [s.extract a i], i + 1) else (out, a) := by rw [partsN, hp]
  by_cases hlt : i ≤ s.size
  rotate_left
  · have hd : decide ((i : Int) ≤ (s.size : Int)) = false := decide_eq_false (by omega)
    have hie : i = s.size + 1 := by omega
    have hr : partsS s = out := by rw [partsS, ← hie, hp]
    rw [hr]
    clear hstep hp hn hi hie hr hlt
    exact wFnNc19_0
  have hd : decide ((i : Int) ≤ (s.size : Int)) = true := decide_eq_true (by omega)
  have a0 : (0 : Int) ≤ (a : Int) := by omega
  have a1 : (a : Int) ≤ (i : Int) := by omega
  have a2 : (0 : Int) ≤ (i : Int) := by omega
  have a3 : (i : Int) ≤ (s.size : Int) := by omega
  have ho4 : out.length ≤ 4194304 := by omega
  by_cases hie : i = s.size
  · have he : ((i : Int) == (s.size : Int)) = true := by rw [hie]; simp
    rw [if_pos (.inl hie)] at hstep
    have hstep := Kept.mk hstep
    clear hp hie hlt
    (all_goals (have E0 := @encString.eq_1))
    repeat' (first | refine oneF ?_ | (refine two ?_ ?_; all_goals (intro h; try simp only [Bool.not_eq_true', Bool.not_eq_false', reduceCtorEq] at h)) | fail)
    all_goals (try clear E0)
    all_goals (
      refine ⟨s.size + 1 - (i + 1), by omega, i + 1, out ++ [s.extract a i], i + 1, rfl, by omega, hstep.out, ?_⟩
      clear hstep
      (rw [clr_eq]; rotate_left; rfl; simp only [keepB, go_sem, Nat.reduceBEq, Nat.reduceAdd, cond_true, cond_false, *]; simp only [clrG, Nat.reduceBEq, Nat.reduceAdd, cond_true, cond_false])
      first | done | (simp only [List.map_append]; rfl))
  have he : ((i : Int) == (s.size : Int)) = false := by simp; omega
  have hlt2 : (i : Int) < (s.size : Int) := by omega
  obtain ⟨b, hb⟩ := byte_at (s := s) (i := i) (by omega)
  have hdot := dot_at hb
  cases hc : ((b.toNat : Int) == 46) with
  | true =>
    rw [hc] at hdot
    rw [if_pos (.inr hdot)] at hstep
    have hstep := Kept.mk hstep
    clear hp hie hlt hdot
    (all_goals (have E0 := @encString.eq_1))
    repeat' (first | refine oneF ?_ | (refine two ?_ ?_; all_goals (intro h; try simp only [Bool.not_eq_true', Bool.not_eq_false', reduceCtorEq] at h)) | fail)
    all_goals (try clear E0)
    all_goals (
      refine ⟨s.size + 1 - (i + 1), by omega, i + 1, out ++ [s.extract a i], i + 1, rfl, by omega, hstep.out, ?_⟩
      clear hstep
      (rw [clr_eq]; rotate_left; rfl; simp only [keepB, go_sem, Nat.reduceBEq, Nat.reduceAdd, cond_true, cond_false, *]; simp only [clrG, Nat.reduceBEq, Nat.reduceAdd, cond_true, cond_false])
      first | done | (simp only [List.map_append]; rfl))
  | false =>
    rw [hc] at hdot
    rw [if_neg (by rw [hdot]; simp [hie])] at hstep
    have hstep := Kept.mk hstep
    clear hp hie hlt hdot
    (all_goals (have E0 := @encString.eq_1))
    repeat' (first | refine oneF ?_ | (refine two ?_ ?_; all_goals (intro h; try simp only [Bool.not_eq_true', Bool.not_eq_false', reduceCtorEq] at h)) | fail)
    all_goals (try clear E0)
    all_goals (
      refine ⟨s.size + 1 - (i + 1), by omega, i + 1, out, a, rfl, by omega, hstep.out, ?_⟩
      clear hstep
      (rw [clr_eq]; rotate_left; rfl; simp only [keepB, go_sem, Nat.reduceBEq, Nat.reduceAdd, cond_true, cond_false, *]; simp only [clrG, Nat.reduceBEq, Nat.reduceAdd, cond_true, cond_false])
      first | done | rfl)

noncomputable abbrev ic_spec_l11Parts := Con.mk (P := P) (f := 19) Tryd.call19 @c_spec_l11Parts
attribute [instance] ic_spec_l11Parts
def isT (p : ByteArray) (c : UInt8) : Bool := p.toList == ByteArray.toList { data := #[c] }
/-- The i-th part is right; st: stars may stand. -/
def okP (st : Bool) (ps : List ByteArray) (i : Nat) : Bool := match ps[i]? with
  | some p => (st && (isT p 42 || (isT p 62 && ((i : Int) == (ps.length : Int) - 1)))) || plainB p
  | none => true
def rightL (st : Bool) (ps : List ByteArray) : Bool := (List.range ps.length).all (okP st ps)
def rightB (st : Bool) (s : ByteArray) : Bool := (decide ((s.size : Int) ≥ 1) && decide ((s.size : Int) ≤ 24)) && rightL st (partsS s)
theorem right_all {st : Bool} {ps : List ByteArray} {i : Nat} (h : ∀ j, j < i → okP st ps j = true) (hi : ps.length ≤ i) : rightL st ps = true := by
  rw [rightL, List.all_eq_true]
  intro j hj
  exact h j (by have := List.mem_range.1 hj; omega)
theorem right_not {st : Bool} {ps : List ByteArray} {i : Nat} (hi : i < ps.length) (h : okP st ps i = false) : rightL st ps = false := by
  rw [rightL, List.all_eq_false]
  exact ⟨i, List.mem_range.2 hi, by rw [h]; simp⟩
theorem okP_succ {st : Bool} {ps : List ByteArray} {i : Nat} (h : ∀ j, j < i → okP st ps j = true) (hr : okP st ps i = true) : ∀ j, j < i + 1 → okP st ps j = true := fun j hj => by
  rcases Nat.lt_or_ge j i with h1 | h1
  · exact h j h1
  · rw [show j = i by omega]; exact hr
theorem right_plain (ps : List ByteArray) : rightL false ps = !(ps.any fun p => !plainB p) := by
  rw [Bool.eq_iff_iff]
  simp only [rightL, List.all_eq_true, List.mem_range, Bool.not_eq_true', List.any_eq_false, Bool.not_eq_true, Bool.not_eq_false']
  constructor
  · intro h p hp
    obtain ⟨j, hj⟩ := List.getElem?_of_mem hp
    have := h j (List.getElem?_eq_some_iff.1 hj).1
    simpa [okP, hj] using this
  · intro h j hj
    simp only [okP, List.getElem?_eq_getElem hj, Bool.false_and, Bool.false_or]
    simpa using h _ (List.getElem_mem hj)
theorem c_spec_l11Right (s : ByteArray) (st : Bool) (hs : s.size ≤ 1048576) : Sound P 20 [.str s, .bool st] (.bool (rightB st s)) := by
  cases hz : (decide ((s.size : Int) ≥ 1) && decide ((s.size : Int) ≤ 24)) with
  | false =>
    have hr : rightB st s = false := by rw [rightB, hz, Bool.false_and]
    rw [hr]
    clear hr
    exact wFnNc20_0
  | true =>
  have hr : rightB st s = rightL st (partsS s) := by rw [rightB, hz, Bool.true_and]
  rw [hr]
  clear hr
  have hlen := partsS_le s
  have hsplit := c_spec_l11Parts s hs
  obtain ⟨ps, hps⟩ : ∃ ps, partsS s = ps := ⟨_, rfl⟩
  rw [hps] at hlen hsplit
  rw [hps]
  have hps4 : ps.length ≤ 4194304 := by omega
  have hpb : ∀ p ∈ ps, p.size < 4611686018427387904 := fun p hp => by
    rw [← hps] at hp
    exact parts_size hp (by omega)
  have hwl : IntKind.i64.wrap ((ps.length : Int) - 1) = (ps.length : Int) - 1 := by rw [wrap_small] <;> omega
  have hpb := Kept.mk hpb
  clear hps
  refine snd_b hT Tryd.func20 Tryd.results20 Tryd.ntmps20 ?_
  repeat' (first | refine oneF ?_ | (refine two ?_ ?_; all_goals (intro h; try simp only [Bool.not_eq_true', Bool.not_eq_false', reduceCtorEq] at h)) | fail)
  refine aw_loop [2, 3, 7, 8, 9, 10, 11, 12, 13, 14, 15, 16, 17, 18, 19, 20, 21, 22, 23, 24, 25, 26, 27, 28, 29, 30, 31, 32, 33, 34, 35, 36, 37, 38, 39, 40, 41, 42, 43, 44, 45, 46, 47, 48, 49, 50, 51] (fun n S => ∃ i : Nat, n = ps.length - i ∧ i ≤ ps.length ∧ (∀ j, j < i → okP st ps j = true) ∧ S = [.str s, .bool st, .undef, .undef, .bool false, .lst true 1 (ps.map encString), .int .i64 i, .undef, .undef, .undef, .undef, .undef, .undef, .undef, .undef, .undef, .undef, .undef, .undef, .undef, .undef, .undef, .undef, .undef, .undef, .undef, .undef, .undef, .undef, .undef, .undef, .undef, .undef, .undef, .undef, .undef, .undef, .undef, .undef, .undef, .undef, .undef, .undef, .undef, .undef, .undef, .undef, .undef, .undef, .undef, .undef, .undef]) ps.length ?_ ?_
  · refine ⟨0, by simp, by omega, fun j hj => by omega, ?_⟩
    clear hpb
    first
    | ((rw [clr_eq]; rotate_left; rfl; simp only [keepB, go_sem, Nat.reduceBEq, Nat.reduceAdd, cond_true, cond_false, *]; simp only [clrG, Nat.reduceBEq, Nat.reduceAdd, cond_true, cond_false]); first | done | rfl)
    | (simp only [clr, go_sem]; first | done | rfl)
  rintro n S ⟨i, hn, hi, hl, rfl⟩
  have hw : IntKind.i64.wrap ((i : Int) + 1) = ((i + 1 : Nat) : Int) := by rw [wrap_small] <;> omega
  by_cases hlt : i < ps.length
  rotate_left
  · have hd : decide ((i : Int) < (ps.length : Int)) = false := decide_eq_false (by omega)
    rw [right_all hl (by omega)]
    clear hl hpb hn
    exact wFnNc20_1
  have hd : decide ((i : Int) < (ps.length : Int)) = true := decide_eq_true (by omega)
  obtain ⟨p, hp⟩ : ∃ p, ps[i]? = some p := ⟨ps[i], List.getElem?_eq_getElem hlt⟩
  have hpz : p.size < 4611686018427387904 := hpb.out p (List.mem_of_getElem? hp)
  have hi0 : (0 : Int) ≤ (i : Int) := by omega
  have hi1 : (i : Int) < (ps.length : Int) := by omega
  have hok : okP st ps i = ((st && (isT p 42 || (isT p 62 && ((i : Int) == (ps.length : Int) - 1)))) || plainB p) := by rw [okP, hp]
  have e42 : (p.toList == ByteArray.toList { data := #[42] }) = isT p 42 := rfl
  have e62 : (p.toList == ByteArray.toList { data := #[62] }) = isT p 62 := rfl
  clear hpb
  cases st
  · simp only [Bool.false_and, Bool.false_or] at hok
    cases hpl : plainB p
    · rw [hpl] at hok
      rw [right_not hlt hok]
      clear hl hok hn e42 e62
      exact wFnNc20_2
    · rw [hpl] at hok
      have hl' := okP_succ hl hok
      have hl' := Kept.mk hl'
      clear hl hok e42 e62
      (all_goals (have E0 := @encString.eq_1))
      repeat' (first | refine oneF ?_ | (refine two ?_ ?_; all_goals (intro h; try simp only [Bool.not_eq_true', Bool.not_eq_false', reduceCtorEq] at h)) | fail)
      all_goals (try clear E0)
      all_goals (
        refine ⟨ps.length - (i + 1), by omega, i + 1, rfl, by omega, hl'.out, ?_⟩
        clear hl'
        (rw [clr_eq]; rotate_left; rfl; simp only [keepB, go_sem, Nat.reduceBEq, Nat.reduceAdd, cond_true, cond_false, *]; simp only [clrG, Nat.reduceBEq, Nat.reduceAdd, cond_true, cond_false])
        first | done | rfl)
  cases hq : isT p 42
  rotate_left
  · rw [hq] at e42 hok
    simp only [Bool.true_or, Bool.true_and] at hok
    clear hq e62
    have hl' := okP_succ hl hok
    have hl' := Kept.mk hl'
    clear hl hok 
    (all_goals (have E0 := @encString.eq_1))
    repeat' (first | refine oneF ?_ | (refine two ?_ ?_; all_goals (intro h; try simp only [Bool.not_eq_true', Bool.not_eq_false', reduceCtorEq] at h)) | fail)
    all_goals (try clear E0)
    all_goals (
      refine ⟨ps.length - (i + 1), by omega, i + 1, rfl, by omega, hl'.out, ?_⟩
      clear hl'
      (rw [clr_eq]; rotate_left; rfl; simp only [keepB, go_sem, Nat.reduceBEq, Nat.reduceAdd, cond_true, cond_false, *]; simp only [clrG, Nat.reduceBEq, Nat.reduceAdd, cond_true, cond_false])
      first | done | rfl)
  rw [hq] at e42 hok
  clear hq
  cases hq : isT p 62
  · rw [hq] at e62 hok
    simp only [Bool.true_and, Bool.false_or, Bool.false_and] at hok
    clear hq
    cases hpl : plainB p
    · rw [hpl] at hok
      rw [right_not hlt hok]
      clear hl hok hn 
      exact wFnNc20_2
    · rw [hpl] at hok
      have hl' := okP_succ hl hok
      have hl' := Kept.mk hl'
      clear hl hok 
      (all_goals (have E0 := @encString.eq_1))
      repeat' (first | refine oneF ?_ | (refine two ?_ ?_; all_goals (intro h; try simp only [Bool.not_eq_true', Bool.not_eq_false', reduceCtorEq] at h)) | fail)
      all_goals (try clear E0)
      all_goals (
        refine ⟨ps.length - (i + 1), by omega, i + 1, rfl, by omega, hl'.out, ?_⟩
        clear hl'
        (rw [clr_eq]; rotate_left; rfl; simp only [keepB, go_sem, Nat.reduceBEq, Nat.reduceAdd, cond_true, cond_false, *]; simp only [clrG, Nat.reduceBEq, Nat.reduceAdd, cond_true, cond_false])
        first | done | rfl)
  rw [hq] at e62 hok
  clear hq
  cases hlast : ((i : Int) == (ps.length : Int) - 1)
  · rw [hlast] at hok
    simp only [Bool.and_false, Bool.or_false, Bool.false_or] at hok
    cases hpl : plainB p
    · rw [hpl] at hok
      rw [right_not hlt hok]
      clear hl hok hn 
      exact wFnNc20_2
    · rw [hpl] at hok
      have hl' := okP_succ hl hok
      have hl' := Kept.mk hl'
      clear hl hok 
      (all_goals (have E0 := @encString.eq_1))
      repeat' (first | refine oneF ?_ | (refine two ?_ ?_; all_goals (intro h; try simp only [Bool.not_eq_true', Bool.not_eq_false', reduceCtorEq] at h)) | fail)
      all_goals (try clear E0)
      all_goals (
        refine ⟨ps.length - (i + 1), by omega, i + 1, rfl, by omega, hl'.out, ?_⟩
        clear hl'
        (rw [clr_eq]; rotate_left; rfl; simp only [keepB, go_sem, Nat.reduceBEq, Nat.reduceAdd, cond_true, cond_false, *]; simp only [clrG, Nat.reduceBEq, Nat.reduceAdd, cond_true, cond_false])
        first | done | rfl)
  rw [hlast] at hok
  simp only [Bool.and_self, Bool.or_true, Bool.true_or, Bool.false_or, Bool.true_and] at hok
  have hl' := okP_succ hl hok
  have hl' := Kept.mk hl'
  clear hl hok 
  (all_goals (have E0 := @encString.eq_1))
  repeat' (first | refine oneF ?_ | (refine two ?_ ?_; all_goals (intro h; try simp only [Bool.not_eq_true', Bool.not_eq_false', reduceCtorEq] at h)) | fail)
  all_goals (try clear E0)
  all_goals (
    refine ⟨ps.length - (i + 1), by omega, i + 1, rfl, by omega, hl'.out, ?_⟩
    clear hl'
    (rw [clr_eq]; rotate_left; rfl; simp only [keepB, go_sem, Nat.reduceBEq, Nat.reduceAdd, cond_true, cond_false, *]; simp only [clrG, Nat.reduceBEq, Nat.reduceAdd, cond_true, cond_false])
    first | done | rfl)
noncomputable abbrev ic_spec_l11Right := Con.mk (P := P) (f := 20) Tryd.call20 @c_spec_l11Right
attribute [instance] ic_spec_l11Right
theorem c_spec_NameOk (s : ByteArray) (hs : s.size ≤ 1048576) : Sound P 9 [.str s] (.bool (rightB false s)) := by
  exact wFnNc9_0
noncomputable abbrev ic_spec_NameOk := Con.mk (P := P) (f := 9) Tryd.call9 @c_spec_NameOk
attribute [instance] ic_spec_NameOk
theorem c_spec_PatternOk (s : ByteArray) (hs : s.size ≤ 1048576) : Sound P 18 [.str s] (.bool (rightB true s)) := by
  exact wFnNc18_0
noncomputable abbrev ic_spec_PatternOk := Con.mk (P := P) (f := 18) Tryd.call18 @c_spec_PatternOk
attribute [instance] ic_spec_PatternOk
theorem c_NameOk_clo (p : ByteArray) (hp : p.size < 4611686018427387904) : Sound P 25 [encString p] (.bool (!plainB p)) := by
  exact wFnNc25_0
theorem c_impl_NameOk (s : ByteArray) (hs : s.size ≤ 1048576) : Sound P 16 [.str s] (.bool (rightB false s)) := by
  cases hz : (decide ((s.size : Int) ≥ 1) && decide ((s.size : Int) ≤ 24)) with
  | false =>
    have hr : rightB false s = false := by rw [rightB, hz, Bool.false_and]
    rw [hr]
    clear hr
    exact wFnNc16_0
  | true =>
  have hr : rightB false s = !((partsS s).any fun p => !plainB p) := by rw [rightB, hz, Bool.true_and, right_plain]
  rw [hr]
  clear hr
  have hlen := partsS_le s
  have hsplit := c_strings_Split s (by omega)
  have hp : ∀ p ∈ partsS s, Sound P 25 (encString p :: []) (.bool ((fun p => !plainB p) p)) := fun p hp => c_NameOk_clo p (parts_size hp (by omega))
  have hc := c_slices_ContainsFunc_string_string (partsS s) _ hp Tryd.call25 rfl (by omega)
  clear hp
  exact wFnNc16_0
noncomputable abbrev ic_impl_NameOk := Con.mk (P := P) (f := 16) Tryd.call16 @c_impl_NameOk
attribute [instance] ic_impl_NameOk
end Go.Proofs.YtffpfjnakhpheaaDoor
