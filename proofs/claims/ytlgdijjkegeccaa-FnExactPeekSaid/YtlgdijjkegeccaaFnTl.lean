/- Contracts: what is ahead of the oldest goes, of the specification; how the oldest moves. -/
import Derived.Test.YtlgdijjkegeccaaFnTr
import Derived.Test.YtlgdijjkegeccaaBvM5
namespace Go.Proofs.Ytlgdijjkegeccaa
open Go Go.RowKit Go.Bv
set_option linter.unusedSimpArgs false
set_option linter.unusedVariables false
set_option maxRecDepth 4000
set_option maxHeartbeats 1000000
/-! The walks that end. -/
theorem sFnTl85 {p q : Prop} (k : q) (h : q → p := by
  first
  | exact shAR 1 (by exact i_S hT [[], [0], [], [2], [0, 1, 2, 3], [0, 1, 2, 3, 4]] [4, 5, 6, 7, 8, 3])
  | exact i1
  | fail) : p := h k
theorem wFnTl85_0 {p : Prop} (h : p := by
  have E0 := @encRing.eq_1
  refine snd_b hT Try.func85 Try.results85 Try.ntmps85 ?_
  repeat' (first | refine sFnTl85 ?_ | (refine two ?_ ?_; all_goals (intro h; try simp only [Bool.not_eq_true', Bool.not_eq_false', reduceCtorEq] at h)) | fail)
  all_goals (simp only [go_sem, *]; first | done | rfl)) : p := h

theorem leastI_lb {f : List SubV} {x l : Int} (hl : x ≤ l) (h : ∀ s ∈ f, x ≤ s.cursor) : x ≤ leastI f l := by
  unfold leastI
  induction f generalizing l with
  | nil => exact hl
  | cons s f ih =>
    simp only [List.foldl_cons]
    refine ih ?_ fun q hq => h q (List.mem_cons_of_mem _ hq)
    have := h s (List.mem_cons_self ..)
    split <;> omega
theorem leastI_mem {f : List SubV} {l : Int} {s : SubV} (h : s ∈ f) : leastI f l ≤ s.cursor := by
  induction f generalizing l with
  | nil => cases h
  | cons q f ih =>
    rcases List.mem_cons.1 h with rfl | h
    · have := leastI_le f (if s.cursor < l then s.cursor else l)
      simp only [leastI, List.foldl_cons] at this ⊢
      refine Int.le_trans this ?_
      split <;> omega
    · have := ih (l := if q.cursor < l then q.cursor else l) h
      simpa only [leastI, List.foldl_cons] using this
theorem oldestI_mono {r q : RingV} (hc : q.cap = r.cap) (hs : r.sent ≤ q.sent) (h : ∀ s ∈ q.subs, ∃ p ∈ r.subs, p.cursor ≤ s.cursor) : oldestI r ≤ oldestI q := by
  have hl : leastI r.subs r.sent ≤ leastI q.subs q.sent := leastI_lb (Int.le_trans (leastI_le _ _) hs) fun s hm => by
    obtain ⟨p, hp, hle⟩ := h s hm
    exact Int.le_trans (leastI_mem hp) hle
  simp only [oldestI, hc]
  repeat' split
  all_goals omega
theorem trim_fit {r q : RingV} (hI : RingIs r) (hc : q.cap = r.cap) (hs : r.sent ≤ q.sent) (hi : (q.items.length : Int) = r.items.length + (q.sent - r.sent)) (h : ∀ s ∈ q.subs, ∃ p ∈ r.subs, p.cursor ≤ s.cursor) :
    0 ≤ q.sent - oldestI q ∧ q.sent - oldestI q ≤ q.items.length := by
  have h1 := oldestI_mono hc hs h
  have h2 := oldestI_in (r := q) (by have := hI.sent1; omega) (by rw [hc]; exact hI.cap1)
  have h3 := hI.items
  omega
theorem subs_set {f : List SubV} {k : Nat} {s s' : SubV} (hs : f[k]? = some s) (h : s.cursor ≤ s'.cursor) : ∀ x ∈ f.set k s', ∃ p ∈ f, p.cursor ≤ x.cursor := fun x hx => by
  rcases List.mem_or_eq_of_mem_set hx with hx | rfl
  · exact ⟨x, hx, Int.le_refl _⟩
  · exact ⟨s, List.mem_of_getElem? hs, h⟩
theorem okSubS_set {f : List SubV} {k : Nat} {s s' : SubV} (hs : f[k]? = some s) (he : s'.filter = s.filter) (h : okSubS f) : okSubS (f.set k s') := by
  refine ⟨by rw [List.length_set]; exact h.1, fun x hx => ?_⟩
  rcases List.mem_or_eq_of_mem_set hx with hx | rfl
  · exact h.2 x hx
  · have := h.2 s (List.mem_of_getElem? hs)
    unfold okSub at this ⊢
    rw [he]; exact this
/-- One of them is turned. -/
structure Turn (f g : List SubV) (k : Nat) (s : SubV) : Prop where
  got : g[k]? = some s
  len : g.length = f.length
  eq : g = f.set k s
theorem turn {f : List SubV} {k : Nat} {s : SubV} (q : SubV) (h : f[k]? = some s) : ∃ g, Turn f g k q :=
  ⟨f.set k q, by rw [List.getElem?_set_self (List.getElem?_eq_some_iff.1 h).1], by simp, rfl⟩
theorem Turn.map {f g : List SubV} {k : Nat} {s : SubV} (h : Turn f g k s) (o : Bool) : (f.map (encSub o)).set k (encSub o s) = g.map (encSub o) := by rw [h.eq, List.map_set]
theorem Turn.again {f g e : List SubV} {k : Nat} {s q : SubV} (h : Turn f g k s) (h' : Turn g e k q) : Turn f e k q :=
  ⟨h'.got, h'.len.trans h.len, by rw [h'.eq, h.eq, List.set_set]⟩
theorem sumL_set {α : Type} (g : α → Nat) {f : List α} {k : Nat} {x y : α} (h : f[k]? = some x) (he : g y = g x) : sumL g (f.set k y) = sumL g f := by
  induction f generalizing k with
  | nil => simp at h
  | cons z f ih =>
    cases k with
    | zero => simp only [List.getElem?_cons_zero, Option.some.injEq] at h; subst h; simp [sumL, he]
    | succ k => have := ih (k := k) (by simpa using h); simp only [sumL, List.set_cons_succ, List.map_cons, List.sum_cons] at this ⊢; omega
theorem Turn.w {f g : List SubV} {k : Nat} {s q : SubV} (h : Turn f g k q) (hs : f[k]? = some s) (he : q.filter = s.filter) : wSubS g = wSubS f := by
  rw [h.eq, wSubS, wSubS, sumL_set wSub hs (by simp only [wSub, he]), List.length_set]
theorem sumL_drop {α : Type} (g : α → Nat) (f : List α) (n : Nat) : sumL g (f.drop n) ≤ sumL g f := by
  have := sumL_append g (f.take n) (f.drop n)
  rw [List.take_append_drop] at this
  omega
theorem trim_w (r : RingV) : wRing (trimR r) ≤ wRing r := by
  have := sumL_drop wMsg r.items (trimN r)
  simp only [wRing, trimR, wMsgS, List.length_drop]
  omega
theorem trim_len {r : RingV} (h : (trimN r : Nat) ≤ r.items.length) : (trimR r).items.length + trimN r = r.items.length := by
  simp only [trimR, List.length_drop]; omega
-- MOVE c_spec_l9Trim
theorem trim0_spec (r : RingV) {u : AV} (hu : u = encRing true r) (hr : okRing r) (h1 : -9223372036854775808 ≤ r.sent - r.cap) (h2 : r.sent - r.cap ≤ 9223372036854775807) (h3 : 0 ≤ r.sent - oldestI r) (h4 : r.sent - oldestI r ≤ r.items.length) (h5 : r.items.length ≤ 4194304) :
    Sound P 85 [u] (encRing true (trimR r)) := by
  subst hu
  obtain ⟨k, hk⟩ : ∃ k : Nat, (r.items.length : Int) - (r.sent - oldestI r) = (k : Nat) := ⟨((r.items.length : Int) - (r.sent - oldestI r)).toNat, by omega⟩
  have hn : trimN r = k := by rw [trimN, hk]; simp
  have hkl : k ≤ r.items.length := by omega
  have hkl2 : (k : Int) ≤ (r.items.length : Int) := by omega
  have hk0 : (0 : Int) ≤ (k : Int) := by omega
  have w1 : IntKind.i64.wrap (r.sent - oldestI r) = r.sent - oldestI r := by rw [wrap_small] <;> omega
  have w2 : IntKind.i64.wrap ((r.items.length : Int) - (r.sent - oldestI r)) = (k : Int) := by rw [hk, wrap_small] <;> omega
  have hd : List.drop k (r.items.map (encMsg true)) = (r.items.drop k).map (encMsg true) := (List.map_drop ..).symm
  have hv : trimR r = { r with items := r.items.drop k } := by rw [trimR, hn]
  rw [hv]
  clear hv hn
  by_cases hz : k = 0
  · subst hz
    have hg : decide ((r.items.length : Int) > r.sent - oldestI r) = false := decide_eq_false (by omega)
    have hg2 : decide (r.sent - oldestI r < (r.items.length : Int)) = false := decide_eq_false (by omega)
    simp only [List.drop_zero]
    clear hk hd hk0 hkl hkl2 w2
    exact wFnTl85_0
  · have hg : decide ((r.items.length : Int) > r.sent - oldestI r) = true := decide_eq_true (by omega)
    have hg2 : decide (r.sent - oldestI r < (r.items.length : Int)) = true := decide_eq_true (by omega)
    have ht : List.take (r.items.length - k) ((r.items.drop k).map (encMsg true)) = (r.items.drop k).map (encMsg true) := List.take_of_length_le (by simp)
    have hdl : (List.drop k r.items).length ≤ 4194304 := by simp; omega
    clear hk hz
    exact wFnTl85_0
theorem c_spec_l9Trim (cap sent : Int) (items : List MsgV) (next : Int) (subs : List SubV) (line grants : List Int) (closed : Bool) {u : AV} (hu : u = .agg [.int .i64 cap, .int .i64 sent, .lst true 3 (items.map (encMsg true)), .int .i64 next, .lst true 7 (subs.map (encSub true)), .lst true 1 (line.map encInt), .lst true 1 (grants.map encInt), .bool closed]) (hr : okRing ⟨cap, sent, items, next, subs, line, grants, closed⟩)
    (h1 : -9223372036854775808 ≤ sent - cap) (h2 : sent - cap ≤ 9223372036854775807) (h3 : 0 ≤ sent - oldestI ⟨cap, sent, items, next, subs, line, grants, closed⟩) (h4 : sent - oldestI ⟨cap, sent, items, next, subs, line, grants, closed⟩ ≤ items.length) (h5 : items.length ≤ 4194304) :
    Sound P 85 [u] (encRing true (trimR ⟨cap, sent, items, next, subs, line, grants, closed⟩)) :=
  trim0_spec ⟨cap, sent, items, next, subs, line, grants, closed⟩ hu hr h1 h2 h3 h4 h5
noncomputable abbrev ic_spec_l9Trim := ConM.mk (P := P) (f := 85) Try.call85 @c_spec_l9Trim
attribute [instance] ic_spec_l9Trim
end Go.Proofs.Ytlgdijjkegeccaa
