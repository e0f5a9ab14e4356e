/- What a right ring is like. -/
import Derived.Test.YtlgdijjkegeccaaFnSw
namespace Go.Proofs.Ytlgdijjkegeccaa
open Go Go.RowKit Go.Bv
set_option linter.unusedSimpArgs false
set_option linter.unusedVariables false
set_option maxRecDepth 4000

structure RingIs (r : RingV) : Prop where
  cap1 : 1 ≤ r.cap
  cap2 : r.cap ≤ 16
  sent1 : 0 ≤ r.sent
  sent2 : r.sent ≤ 1000000000
  next1 : 0 ≤ r.next
  next2 : r.next ≤ 1000000000
  subs : r.subs.length ≤ 12
  sub : ∀ (i : Nat) (s : SubV), r.subs[i]? = some s → 0 ≤ s.id ∧ s.id ≤ r.next - 1 ∧ subB r s = true
  ids : ∀ (i : Nat) (s q : SubV), r.subs[i + 1]? = some s → r.subs[i]? = some q → q.id < s.id
  items : (r.items.length : Int) = r.sent - oldestI r
  msgs : r.items.all msgB = true
  waits : waitB r = true
theorem ringIs {r : RingV} (h : ringB r = true) : RingIs r := by
  unfold ringB at h
  simp only [Bool.and_eq_true, decide_eq_true_eq, beq_iff_eq, allTo_iff] at h
  obtain ⟨⟨⟨⟨⟨⟨⟨⟨c1, c2⟩, s1, s2⟩, n1, n2⟩, hl⟩, hs⟩, hm⟩, hi⟩, hw⟩ := h
  have hq : ∀ (i : Nat) (s : SubV), r.subs[i]? = some s → (0 ≤ s.id ∧ s.id ≤ r.next - 1) ∧ subB r s = true ∧ (i = 0 ∨ (match r.subs[i - 1]? with | some q => decide (q.id < s.id) | none => true) = true) := by
    intro i s his
    have := hs i (List.getElem?_eq_some_iff.1 his).1
    simp only [subsQ, his, Bool.and_eq_true, Bool.or_eq_true, decide_eq_true_eq] at this
    exact ⟨⟨this.1.1.1, this.1.1.2⟩, this.1.2, this.2⟩
  refine ⟨c1, c2, s1, s2, n1, n2, hl, fun i s his => ⟨(hq i s his).1.1, (hq i s his).1.2, (hq i s his).2.1⟩, fun i s q his hiq => ?_, hi, hm, hw⟩
  rcases (hq (i + 1) s his).2.2 with e | e
  · omega
  · rw [show i + 1 - 1 = i by omega, hiq] at e
    simpa using e
structure SubIs (r : RingV) (s : SubV) : Prop where
  start : 0 ≤ s.start
  cur1 : s.start ≤ s.cursor
  cur2 : s.cursor ≤ r.sent
  filter : filterB s.filter = true
  got1 : 0 ≤ s.got
  got2 : s.got ≤ s.cursor - s.start
  lost1 : 0 ≤ s.lost
  lost2 : s.lost ≤ s.cursor - s.start
  pass1 : 0 ≤ s.passed
  pass2 : s.passed ≤ s.cursor - s.start
  sum : s.got + s.lost + s.passed = s.cursor - s.start
theorem subIs {r : RingV} {s : SubV} (h : subB r s = true) : SubIs r s := by
  unfold subB at h
  simp only [Bool.and_eq_true, decide_eq_true_eq] at h
  obtain ⟨⟨⟨a1, a2, a3⟩, hf⟩, b1, b2, b3, b4, b5, b6, b7⟩ := h
  exact ⟨a1, a2, a3, hf, b1, b2, b3, b4, b5, b6, b7⟩
theorem RingIs.at {r : RingV} (h : RingIs r) {i : Nat} {s : SubV} (hs : r.subs[i]? = some s) : SubIs r s := subIs (h.sub i s hs).2.2
/-- Where the subscription stands. -/
def curI (r : RingV) (id : Int) : Int := match r.subs[(atI r.subs id).toNat]? with
  | some s => s.cursor
  | none => 0
end Go.Proofs.Ytlgdijjkegeccaa
