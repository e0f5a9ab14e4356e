/- What a right ring is like. They wait no more than there are; items one by one. Contracts: what is ahead of the oldest goes, of the program. Contracts: what is ahead of the oldest goes, of the specification; how the oldest moves. Paths that are not the same. -/
import Derived.Test.YtlgdijjkegeccaaGreatFnSw
import Derived.Test.YtlgdijjkegeccaaGreatBvM5
namespace Go.Proofs.YtlgdijjkegeccaaGreat
open Go Go.RowKit Go.Bv
set_option linter.unusedSimpArgs false
set_option linter.unusedVariables false
set_option maxRecDepth 4000

structure RingIs (r : RingV) : Prop where
  cap1 : 1 ≤ r.cap
  cap2 : r.cap ≤ 16
  sent1 : 0 ≤ r.sent
  sent2 : r.sent ≤ 1000000000
  next1 : 0 ≤ r.next
  next2 : r.next ≤ 1000000000
  subs : r.subs.length ≤ 12
  sub : ∀ (i : Nat) (s : SubV), r.subs[i]? = some s → 0 ≤ s.id ∧ s.id ≤ r.next - 1 ∧ subB r s = true
  ids : ∀ (i : Nat) (s q : SubV), r.subs[i + 1]? = some s → r.subs[i]? = some q → q.id < s.id
  items : (r.items.length : Int) = r.sent - oldestI r
  msgs : r.items.all msgB = true
  waits : waitB r = true
theorem ringIs {r : RingV} (h : ringB r = true) : RingIs r := by
  unfold ringB at h
  simp only [Bool.and_eq_true, decide_eq_true_eq, beq_iff_eq, allTo_iff] at h
  obtain ⟨⟨⟨⟨⟨⟨⟨⟨c1, c2⟩, s1, s2⟩, n1, n2⟩, hl⟩, hs⟩, hm⟩, hi⟩, hw⟩ := h
  have hq : ∀ (i : Nat) (s : SubV), r.subs[i]? = some s → (0 ≤ s.id ∧ s.id ≤ r.next - 1) ∧ subB r s = true ∧ (i = 0 ∨ (match r.subs[i - 1]? with | some q => decide (q.id < s.id) | none => true) = true) := by
    intro i s his
    have := hs i (List.getElem?_eq_some_iff.1 his).1
    simp only [subsQ, his, Bool.and_eq_true, Bool.or_eq_true, decide_eq_true_eq] at this
    exact ⟨⟨this.1.1.1, this.1.1.2⟩, this.1.2, this.2⟩
  refine ⟨c1, c2, s1, s2, n1, n2, hl, fun i s his => ⟨(hq i s his).1.1, (hq i s his).1.2, (hq i s his).2.1⟩, fun i s q his hiq => ?_, hi, hm, hw⟩
  rcases (hq (i + 1) s his).2.2 with e | e
  · omega
  · rw [show i + 1 - 1 = i by omega, hiq] at e
    simpa using e
structure SubIs (r : RingV) (s : SubV) : Prop where
  start : 0 ≤ s.start
  cur1 : s.start ≤ s.cursor
  cur2 : s.cursor ≤ r.sent
  filter : filterB s.filter = true
  got1 : 0 ≤ s.got
  got2 : s.got ≤ s.cursor - s.start
  lost1 : 0 ≤ s.lost
  lost2 : s.lost ≤ s.cursor - s.start
  pass1 : 0 ≤ s.passed
  pass2 : s.passed ≤ s.cursor - s.start
  sum : s.got + s.lost + s.passed = s.cursor - s.start
theorem subIs {r : RingV} {s : SubV} (h : subB r s = true) : SubIs r s := by
  unfold subB at h
  simp only [Bool.and_eq_true, decide_eq_true_eq] at h
  obtain ⟨⟨⟨a1, a2, a3⟩, hf⟩, b1, b2, b3, b4, b5, b6, b7⟩ := h
  exact ⟨a1, a2, a3, hf, b1, b2, b3, b4, b5, b6, b7⟩
theorem RingIs.at {r : RingV} (h : RingIs r) {i : Nat} {s : SubV} (hs : r.subs[i]? = some s) : SubIs r s := subIs (h.sub i s hs).2.2
/-- Where the subscription stands. -/
def curI (r : RingV) (id : Int) : Int := match r.subs[(atI r.subs id).toNat]? with
  | some s => s.cursor
  | none => 0
end Go.Proofs.YtlgdijjkegeccaaGreat
namespace Go.Proofs.YtlgdijjkegeccaaGreat
open Go Go.RowKit Go.Bv
set_option linter.unusedSimpArgs false
set_option linter.unusedVariables false
set_option maxRecDepth 4000
set_option maxHeartbeats 1000000

theorem nodup_of_take {A : List Int} (h : ∀ i id, A[i]? = some id → ((A.take i).any (· == id)) = false) : A.Nodup := by
  rw [List.Nodup, List.pairwise_iff_getElem]
  intro i j hi hj hij e
  have := h j A[j] (by simp [hj])
  rw [List.any_eq_false] at this
  refine this A[i] ?_ (by simp [e])
  rw [List.mem_take_iff_getElem]
  exact ⟨i, by omega, rfl⟩
theorem len_of_nodup : ∀ {A B : List Int}, A.Nodup → (∀ x ∈ A, x ∈ B) → A.length ≤ B.length
  | [], _, _, _ => by simp
  | x :: A, B, hA, hB => by
    rw [List.nodup_cons] at hA
    have hx := hB x (by simp)
    have := len_of_nodup (A := A) (B := B.erase x) hA.2 fun y hy => (List.mem_erase_of_ne (fun e => hA.1 (by rw [← e]; exact hy))).2 (hB y (by simp [hy]))
    rw [List.length_erase_of_mem hx] at this
    have := List.length_pos_of_mem hx
    simp only [List.length_cons]
    omega
/-- There wait no more than there are. -/
theorem waitB_len {r : RingV} (h : waitB r = true) : r.line.length + r.grants.length ≤ r.subs.length := by
  rw [waitB, Bool.and_eq_true, allTo_iff] at h
  have hA : ∀ i id, (r.line ++ r.grants)[i]? = some id → 0 ≤ atI r.subs id ∧ (((r.line ++ r.grants).take i).any (· == id)) = false := by
    intro i id hi
    have hlt := (List.getElem?_eq_some_iff.1 hi).1
    have := h.1 i hlt
    unfold waitQ at this
    rw [hi] at this
    simp only [Bool.and_eq_true, decide_eq_true_eq, Bool.not_eq_true'] at this
    exact ⟨this.1.1, this.1.2⟩
  have := len_of_nodup (A := r.line ++ r.grants) (B := r.subs.map (·.id)) (nodup_of_take fun i id hi => (hA i id hi).2) fun x hx => by
    obtain ⟨i, hi⟩ := List.getElem?_of_mem hx
    obtain ⟨k, s, h1, h2, h3, h4⟩ := atI_at (hA i x hi).1
    rw [List.mem_map]
    exact ⟨s, List.mem_of_getElem? h3, by simpa using h4⟩
  simpa using this
/-- The i-th item is right. -/
def itemsQ (r : RingV) (i : Nat) : Bool := match r.items[i]? with
  | none => true
  | some m => msgB m
theorem items_all (r : RingV) : allTo (itemsQ r) r.items.length = r.items.all msgB := by
  rw [Bool.eq_iff_iff, allTo_iff, List.all_eq_true]
  constructor
  · intro h m hm
    obtain ⟨i, hi⟩ := List.getElem?_of_mem hm
    have := h i (List.getElem?_eq_some_iff.1 hi).1
    unfold itemsQ at this
    rwa [hi] at this
  · intro h i hi
    unfold itemsQ
    have : r.items[i]? = some r.items[i] := by simp [hi]
    rw [this]
    exact h _ (List.getElem_mem hi)
end Go.Proofs.YtlgdijjkegeccaaGreat
namespace Go.Proofs.YtlgdijjkegeccaaGreat
open Go Go.RowKit Go.Bv
set_option linter.unusedSimpArgs false
set_option linter.unusedVariables false
set_option maxRecDepth 4000
set_option maxHeartbeats 1000000
/-! The walks that end. -/
theorem sFnTr80 {p q : Prop} (k : q) (h : q → p := by
  first
  | exact shAR 0 (by exact i_T hT [[], [], [1], [1, 2], [1, 2, 3], [], [5], [5, 6], [5, 6, 7], [5, 6, 7, 8], [], [10], [10, 11], [10, 11, 12], [], [14], [14, 15], [14, 15, 16], [10, 11, 12, 13, 14, 15, 16, 17], [5, 6, 7, 8, 9, 10, 11, 12, 13, 14, 15, 16, 17, 18], [1, 2, 3, 4, 5, 6, 7, 8, 9, 10, 11, 12, 13, 14, 15, 16, 17, 18, 19], [0, 1, 2, 3, 4, 5, 6, 7, 8, 9, 10, 11, 12, 13, 14, 15, 16, 17, 18, 19, 20], [0, 1, 2, 3, 4, 5, 6, 7, 8, 9, 10, 11, 12, 13, 14, 15, 16, 17, 18, 19, 20, 21], [0, 1, 2, 3, 4, 5, 6, 7, 8, 9, 10, 11, 12, 13, 14, 15, 16, 17, 18, 19, 20, 21, 22]] 21 [2, 3, 4, 5, 6, 7, 8, 9, 10, 11, 12, 13, 14, 15, 16, 17, 18, 19, 20, 21, 22])
  | exact i1
  | fail) : p := h k
theorem wFnTr80_0 {p : Prop} (h : p := by
  have E0 := @encRing.eq_1
  refine snd_B hT Tryz.func80 Tryz.results80 Tryz.ntmps80 ?_
  repeat' (first | refine sFnTr80 ?_ | (refine two ?_ ?_; all_goals (intro h; try simp only [Bool.not_eq_true', Bool.not_eq_false', reduceCtorEq] at h)) | fail)
  all_goals (simp only [go_sem, *]; first | done | rfl)) : p := h

/-- How many go. -/
def trimN (r : RingV) : Nat := ((r.items.length : Int) - (r.sent - oldestI r)).toNat
def trimR (r : RingV) : RingV := { r with items := r.items.drop (trimN r) }
-- LENTB b_impl_Ring_trim
theorem trim0_impl (r : RingV) {u : AV} (hu : u = .box (encRing true r)) (hr : okRing r) (h1 : -9223372036854775808 ≤ r.sent - r.cap) (h2 : r.sent - r.cap ≤ 9223372036854775807) (h3 : 0 ≤ r.sent - oldestI r) (h4 : r.sent - oldestI r ≤ r.items.length) (h5 : r.items.length ≤ 4194304) :
    SoundB P 80 [u] 0 (.tup []) (.box (encRing true (trimR r))) := by
  subst hu
  obtain ⟨k, hk⟩ : ∃ k : Nat, (r.items.length : Int) - (r.sent - oldestI r) = (k : Nat) := ⟨((r.items.length : Int) - (r.sent - oldestI r)).toNat, by omega⟩
  have hn : trimN r = k := by rw [trimN, hk]; simp
  have hkl : k ≤ r.items.length := by omega
  have hkl2 : (k : Int) ≤ (r.items.length : Int) := by omega
  have hk0 : (0 : Int) ≤ (k : Int) := by omega
  have w1 : IntKind.i64.wrap (r.sent - oldestI r) = r.sent - oldestI r := by rw [wrap_small] <;> omega
  have w2 : IntKind.i64.wrap ((r.items.length : Int) - (r.sent - oldestI r)) = (k : Int) := by rw [hk, wrap_small] <;> omega
  have hd : List.drop k (r.items.map (encMsg true)) = (r.items.drop k).map (encMsg true) := (List.map_drop ..).symm
  have ht : List.take (r.items.length - k) ((r.items.drop k).map (encMsg true)) = (r.items.drop k).map (encMsg true) := List.take_of_length_le (by simp)
  have hv : trimR r = { r with items := r.items.drop k } := by rw [trimR, hn]
  rw [hv]
  clear hv hn hk
  exact wFnTr80_0
theorem b_impl_Ring_trim (cap sent : Int) (items : List MsgV) (next : Int) (subs : List SubV) (line grants : List Int) (closed : Bool) {u : AV} (hu : u = .box (.agg [.int .i64 cap, .int .i64 sent, .lst true 3 (items.map (encMsg true)), .int .i64 next, .lst true 7 (subs.map (encSub true)), .lst true 1 (line.map encInt), .lst true 1 (grants.map encInt), .bool closed])) (hr : okRing ⟨cap, sent, items, next, subs, line, grants, closed⟩)
    (h1 : -9223372036854775808 ≤ sent - cap) (h2 : sent - cap ≤ 9223372036854775807) (h3 : 0 ≤ sent - oldestI ⟨cap, sent, items, next, subs, line, grants, closed⟩) (h4 : sent - oldestI ⟨cap, sent, items, next, subs, line, grants, closed⟩ ≤ items.length) (h5 : items.length ≤ 4194304) :
    SoundB P 80 [u] 0 (.tup []) (.box (encRing true (trimR ⟨cap, sent, items, next, subs, line, grants, closed⟩))) :=
  trim0_impl ⟨cap, sent, items, next, subs, line, grants, closed⟩ hu hr h1 h2 h3 h4 h5
noncomputable abbrev ib_impl_Ring_trim := ConB.mk (P := P) (f := 80) Tryz.call80 @b_impl_Ring_trim
attribute [instance] ib_impl_Ring_trim
end Go.Proofs.YtlgdijjkegeccaaGreat
namespace Go.Proofs.YtlgdijjkegeccaaGreat
open Go Go.RowKit Go.Bv
set_option linter.unusedSimpArgs false
set_option linter.unusedVariables false
set_option maxRecDepth 4000
set_option maxHeartbeats 1000000
/-! The walks that end. -/
theorem sFnTl47 {p q : Prop} (k : q) (h : q → p := by
  first
  | exact shAR 1 (by exact i_S hT [[], [0], [], [2], [0, 1, 2, 3], [0, 1, 2, 3, 4]] [4, 5, 6, 7, 8, 3])
  | exact i1
  | fail) : p := h k
theorem wFnTl47_0 {p : Prop} (h : p := by
  have E0 := @encRing.eq_1
  refine snd_b hT Tryz.func47 Tryz.results47 Tryz.ntmps47 ?_
  repeat' (first | refine sFnTl47 ?_ | (refine two ?_ ?_; all_goals (intro h; try simp only [Bool.not_eq_true', Bool.not_eq_false', reduceCtorEq] at h)) | fail)
  all_goals (simp only [go_sem, *]; first | done | rfl)) : p := h

theorem leastI_lb {f : List SubV} {x l : Int} (hl : x ≤ l) (h : ∀ s ∈ f, x ≤ s.cursor) : x ≤ leastI f l := by
  unfold leastI
  induction f generalizing l with
  | nil => exact hl
  | cons s f ih =>
    simp only [List.foldl_cons]
    refine ih ?_ fun q hq => h q (List.mem_cons_of_mem _ hq)
    have := h s (List.mem_cons_self ..)
    split <;> omega
theorem leastI_mem {f : List SubV} {l : Int} {s : SubV} (h : s ∈ f) : leastI f l ≤ s.cursor := by
  induction f generalizing l with
  | nil => cases h
  | cons q f ih =>
    rcases List.mem_cons.1 h with rfl | h
    · have := leastI_le f (if s.cursor < l then s.cursor else l)
      simp only [leastI, List.foldl_cons] at this ⊢
      refine Int.le_trans this ?_
      split <;> omega
    · have := ih (l := if q.cursor < l then q.cursor else l) h
      simpa only [leastI, List.foldl_cons] using this
theorem oldestI_mono {r q : RingV} (hc : q.cap = r.cap) (hs : r.sent ≤ q.sent) (h : ∀ s ∈ q.subs, ∃ p ∈ r.subs, p.cursor ≤ s.cursor) : oldestI r ≤ oldestI q := by
  have hl : leastI r.subs r.sent ≤ leastI q.subs q.sent := leastI_lb (Int.le_trans (leastI_le _ _) hs) fun s hm => by
    obtain ⟨p, hp, hle⟩ := h s hm
    exact Int.le_trans (leastI_mem hp) hle
  simp only [oldestI, hc]
  repeat' split
  all_goals omega
theorem trim_fit {r q : RingV} (hI : RingIs r) (hc : q.cap = r.cap) (hs : r.sent ≤ q.sent) (hi : (q.items.length : Int) = r.items.length + (q.sent - r.sent)) (h : ∀ s ∈ q.subs, ∃ p ∈ r.subs, p.cursor ≤ s.cursor) :
    0 ≤ q.sent - oldestI q ∧ q.sent - oldestI q ≤ q.items.length := by
  have h1 := oldestI_mono hc hs h
  have h2 := oldestI_in (r := q) (by have := hI.sent1; omega) (by rw [hc]; exact hI.cap1)
  have h3 := hI.items
  omega
theorem subs_set {f : List SubV} {k : Nat} {s s' : SubV} (hs : f[k]? = some s) (h : s.cursor ≤ s'.cursor) : ∀ x ∈ f.set k s', ∃ p ∈ f, p.cursor ≤ x.cursor := fun x hx => by
  rcases List.mem_or_eq_of_mem_set hx with hx | rfl
  · exact ⟨x, hx, Int.le_refl _⟩
  · exact ⟨s, List.mem_of_getElem? hs, h⟩
theorem okSubS_set {f : List SubV} {k : Nat} {s s' : SubV} (hs : f[k]? = some s) (he : s'.filter = s.filter) (h : okSubS f) : okSubS (f.set k s') := by
  refine ⟨by rw [List.length_set]; exact h.1, fun x hx => ?_⟩
  rcases List.mem_or_eq_of_mem_set hx with hx | rfl
  · exact h.2 x hx
  · have := h.2 s (List.mem_of_getElem? hs)
    unfold okSub at this ⊢
    rw [he]; exact this
/-- One of them is turned. -/
structure Turn (f g : List SubV) (k : Nat) (s : SubV) : Prop where
  got : g[k]? = some s
  len : g.length = f.length
  eq : g = f.set k s
theorem turn {f : List SubV} {k : Nat} {s : SubV} (q : SubV) (h : f[k]? = some s) : ∃ g, Turn f g k q :=
  ⟨f.set k q, by rw [List.getElem?_set_self (List.getElem?_eq_some_iff.1 h).1], by simp, rfl⟩
theorem Turn.map {f g : List SubV} {k : Nat} {s : SubV} (h : Turn f g k s) (o : Bool) : (f.map (encSub o)).set k (encSub o s) = g.map (encSub o) := by rw [h.eq, List.map_set]
theorem Turn.again {f g e : List SubV} {k : Nat} {s q : SubV} (h : Turn f g k s) (h' : Turn g e k q) : Turn f e k q :=
  ⟨h'.got, h'.len.trans h.len, by rw [h'.eq, h.eq, List.set_set]⟩
theorem sumL_set {α : Type} (g : α → Nat) {f : List α} {k : Nat} {x y : α} (h : f[k]? = some x) (he : g y = g x) : sumL g (f.set k y) = sumL g f := by
  induction f generalizing k with
  | nil => simp at h
  | cons z f ih =>
    cases k with
    | zero => simp only [List.getElem?_cons_zero, Option.some.injEq] at h; subst h; simp [sumL, he]
    | succ k => have := ih (k := k) (by simpa using h); simp only [sumL, List.set_cons_succ, List.map_cons, List.sum_cons] at this ⊢; omega
theorem Turn.w {f g : List SubV} {k : Nat} {s q : SubV} (h : Turn f g k q) (hs : f[k]? = some s) (he : q.filter = s.filter) : wSubS g = wSubS f := by
  rw [h.eq, wSubS, wSubS, sumL_set wSub hs (by simp only [wSub, he]), List.length_set]
theorem sumL_drop {α : Type} (g : α → Nat) (f : List α) (n : Nat) : sumL g (f.drop n) ≤ sumL g f := by
  have := sumL_append g (f.take n) (f.drop n)
  rw [List.take_append_drop] at this
  omega
theorem trim_w (r : RingV) : wRing (trimR r) ≤ wRing r := by
  have := sumL_drop wMsg r.items (trimN r)
  simp only [wRing, trimR, wMsgS, List.length_drop]
  omega
theorem trim_len {r : RingV} (h : (trimN r : Nat) ≤ r.items.length) : (trimR r).items.length + trimN r = r.items.length := by
  simp only [trimR, List.length_drop]; omega
-- MOVE c_spec_l9Trim
theorem trim0_spec (r : RingV) {u : AV} (hu : u = encRing true r) (hr : okRing r) (h1 : -9223372036854775808 ≤ r.sent - r.cap) (h2 : r.sent - r.cap ≤ 9223372036854775807) (h3 : 0 ≤ r.sent - oldestI r) (h4 : r.sent - oldestI r ≤ r.items.length) (h5 : r.items.length ≤ 4194304) :
    Sound P 47 [u] (encRing true (trimR r)) := by
  subst hu
  obtain ⟨k, hk⟩ : ∃ k : Nat, (r.items.length : Int) - (r.sent - oldestI r) = (k : Nat) := ⟨((r.items.length : Int) - (r.sent - oldestI r)).toNat, by omega⟩
  have hn : trimN r = k := by rw [trimN, hk]; simp
  have hkl : k ≤ r.items.length := by omega
  have hkl2 : (k : Int) ≤ (r.items.length : Int) := by omega
  have hk0 : (0 : Int) ≤ (k : Int) := by omega
  have w1 : IntKind.i64.wrap (r.sent - oldestI r) = r.sent - oldestI r := by rw [wrap_small] <;> omega
  have w2 : IntKind.i64.wrap ((r.items.length : Int) - (r.sent - oldestI r)) = (k : Int) := by rw [hk, wrap_small] <;> omega
  have hd : List.drop k (r.items.map (encMsg true)) = (r.items.drop k).map (encMsg true) := (List.map_drop ..).symm
  have hv : trimR r = { r with items := r.items.drop k } := by rw [trimR, hn]
  rw [hv]
  clear hv hn
  by_cases hz : k = 0
  · subst hz
    have hg : decide ((r.items.length : Int) > r.sent - oldestI r) = false := decide_eq_false (by omega)
    have hg2 : decide (r.sent - oldestI r < (r.items.length : Int)) = false := decide_eq_false (by omega)
    simp only [List.drop_zero]
    clear hk hd hk0 hkl hkl2 w2
    exact wFnTl47_0
  · have hg : decide ((r.items.length : Int) > r.sent - oldestI r) = true := decide_eq_true (by omega)
    have hg2 : decide (r.sent - oldestI r < (r.items.length : Int)) = true := decide_eq_true (by omega)
    have ht : List.take (r.items.length - k) ((r.items.drop k).map (encMsg true)) = (r.items.drop k).map (encMsg true) := List.take_of_length_le (by simp)
    have hdl : (List.drop k r.items).length ≤ 4194304 := by simp; omega
    clear hk hz
    exact wFnTl47_0
theorem c_spec_l9Trim (cap sent : Int) (items : List MsgV) (next : Int) (subs : List SubV) (line grants : List Int) (closed : Bool) {u : AV} (hu : u = .agg [.int .i64 cap, .int .i64 sent, .lst true 3 (items.map (encMsg true)), .int .i64 next, .lst true 7 (subs.map (encSub true)), .lst true 1 (line.map encInt), .lst true 1 (grants.map encInt), .bool closed]) (hr : okRing ⟨cap, sent, items, next, subs, line, grants, closed⟩)
    (h1 : -9223372036854775808 ≤ sent - cap) (h2 : sent - cap ≤ 9223372036854775807) (h3 : 0 ≤ sent - oldestI ⟨cap, sent, items, next, subs, line, grants, closed⟩) (h4 : sent - oldestI ⟨cap, sent, items, next, subs, line, grants, closed⟩ ≤ items.length) (h5 : items.length ≤ 4194304) :
    Sound P 47 [u] (encRing true (trimR ⟨cap, sent, items, next, subs, line, grants, closed⟩)) :=
  trim0_spec ⟨cap, sent, items, next, subs, line, grants, closed⟩ hu hr h1 h2 h3 h4 h5
noncomputable abbrev ic_spec_l9Trim := ConM.mk (P := P) (f := 47) Tryz.call47 @c_spec_l9Trim
attribute [instance] ic_spec_l9Trim
end Go.Proofs.YtlgdijjkegeccaaGreat
namespace Go.Proofs.YtlgdijjkegeccaaGreat
open Go Go.RowKit Go.Bv
set_option linter.unusedSimpArgs false
set_option linter.unusedVariables false
set_option maxRecDepth 4000
theorem path_ne1 {a b c : Nat} {l : List Nat} : ([a] = b :: c :: l) = False := by simp
theorem path_ne2 {a b c : Nat} {l : List Nat} : (b :: c :: l = [a]) = False := by simp
attribute [go_sem] path_ne1 path_ne2
end Go.Proofs.YtlgdijjkegeccaaGreat
