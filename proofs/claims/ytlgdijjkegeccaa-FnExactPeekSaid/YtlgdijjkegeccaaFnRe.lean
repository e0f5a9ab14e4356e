/- What one reading of a ring comes to. -/
import Derived.Test.YtlgdijjkegeccaaFnPe
import Derived.Test.YtlgdijjkegeccaaFnTl
import Derived.Test.YtlgdijjkegeccaaGlTold
namespace Go.Proofs.Ytlgdijjkegeccaa
open Go Go.RowKit Go.Bv
set_option linter.unusedSimpArgs false
set_option linter.unusedVariables false
set_option maxRecDepth 4000
set_option maxHeartbeats 1000000

/-- What a reading leans on. -/
structure ReadIs (r : RingV) : Prop where
  cap1 : 1 ≤ r.cap
  cap2 : r.cap ≤ 16
  sent1 : 0 ≤ r.sent
  sent2 : r.sent ≤ 1000000000
  sub : ∀ (i : Nat) (s : SubV), r.subs[i]? = some s → SubIs r s
  items : (r.items.length : Int) = r.sent - oldestI r
  msgs : r.items.all msgB = true
theorem RingIs.read {r : RingV} (h : RingIs r) : ReadIs r := ⟨h.cap1, h.cap2, h.sent1, h.sent2, fun _ _ hs => h.at hs, h.items, h.msgs⟩
theorem ReadIs.grants {r : RingV} (h : ReadIs r) (f g : List Int) : ReadIs { r with line := f, grants := g } := ⟨h.cap1, h.cap2, h.sent1, h.sent2, fun i s hs => subIs_line (h.sub i s hs), h.items, h.msgs⟩
where subIs_line {r : RingV} {s : SubV} {f g : List Int} (h : SubIs r s) : SubIs { r with line := f, grants := g } s := ⟨h.start, h.cur1, h.cur2, h.filter, h.got1, h.got2, h.lost1, h.lost2, h.pass1, h.pass2, h.sum⟩
theorem ReadIs.len {r : RingV} (h : ReadIs r) : r.items.length ≤ 16 := by
  have h1 := oldestI_in h.sent1 h.cap1
  have h2 := h.items
  have h3 := h.cap2
  omega
/-- How many kept messages lie ahead of its cursor. -/
def offN (r : RingV) (s : SubV) : Nat := (s.cursor - (r.sent - r.items.length)).toNat
def aheadL (r : RingV) (s : SubV) : List MsgV := r.items.drop (offN r s)
def passN (r : RingV) (s : SubV) : Nat := ((aheadL r s).takeWhile fun m => !leftB s.filter m).length
def gotM (r : RingV) (s : SubV) : Option MsgV := (aheadL r s)[passN r s]?
def goneQ (r : RingV) (s : SubV) : Int := r.sent - r.cap - s.cursor
def readS (r : RingV) (s : SubV) : SubV :=
  if goneQ r s > 0 then ⟨s.id, s.start, s.cursor + goneQ r s, s.got, s.lost + goneQ r s, s.passed, s.filter⟩
  else match gotM r s with
    | some _ => ⟨s.id, s.start, s.cursor + ((passN r s + 1 : Nat) : Int), s.got + 1, s.lost, s.passed + (passN r s : Int), s.filter⟩
    | none => ⟨s.id, s.start, s.cursor + (passN r s : Int), s.got, s.lost, s.passed + (passN r s : Int), s.filter⟩
def noMsg : MsgV := ⟨0, 0, { data := #[] }⟩
def noTold : ToldV := ⟨0, noMsg, 0, 0⟩
def readT (r : RingV) (s : SubV) : ToldV :=
  if goneQ r s > 0 then ⟨2, noMsg, 0, goneQ r s⟩
  else match gotM r s with
    | some m => ⟨1, m, s.cursor + (passN r s : Int), 0⟩
    | none => noTold
def readC (r : RingV) (s : SubV) : Int :=
  if goneQ r s > 0 then 0
  else match gotM r s with
    | some _ => 0
    | none => if r.closed then 6 else 4
theorem take_hit {α : Type} {p : α → Bool} {L : List α} {i : Nat} {m : α} (hn : ∀ j x, j < i → L[j]? = some x → p x = true) (hm : L[i]? = some m) (h : p m = false) : (L.takeWhile p).length = i := by
  induction L generalizing i with
  | nil => simp at hm
  | cons x L ih =>
    cases i with
    | zero => simp only [List.getElem?_cons_zero, Option.some.injEq] at hm; subst hm; simp [List.takeWhile_cons, h]
    | succ i =>
      have h0 := hn 0 x (by omega) rfl
      rw [List.takeWhile_cons, h0]
      simp only [if_true, List.length_cons]
      rw [ih (i := i) (fun j y hj hy => hn (j + 1) y (by omega) (by simpa using hy)) (by simpa using hm)]
theorem take_all {α : Type} {p : α → Bool} {L : List α} (hn : ∀ j x, j < L.length → L[j]? = some x → p x = true) : (L.takeWhile p).length = L.length := by
  induction L with
  | nil => rfl
  | cons x L ih =>
    have h0 := hn 0 x (by simp) rfl
    rw [List.takeWhile_cons, h0]
    simp only [if_true, List.length_cons]
    rw [ih fun j y hj hy => hn (j + 1) y (by simp; omega) (by simpa using hy)]
/-- The first i ahead are passed by. -/
def PassUpto (r : RingV) (s : SubV) (i : Nat) : Prop := ∀ j m, j < i → (aheadL r s)[j]? = some m → leftB s.filter m = false
theorem PassUpto.succ {r : RingV} {s : SubV} {i : Nat} {m : MsgV} (h : PassUpto r s i) (hm : (aheadL r s)[i]? = some m) (hp : leftB s.filter m = false) : PassUpto r s (i + 1) := fun j x hj hx => by
  rcases Nat.lt_or_ge j i with h1 | h1
  · exact h j x h1 hx
  · rw [show j = i by omega, hm] at hx
    cases hx; exact hp
theorem pass_hit {r : RingV} {s : SubV} {i : Nat} {m : MsgV} (h : PassUpto r s i) (hm : (aheadL r s)[i]? = some m) (hp : leftB s.filter m = true) : passN r s = i ∧ gotM r s = some m := by
  have : passN r s = i := take_hit (fun j x hj hx => by rw [h j x hj hx]; rfl) hm (by rw [hp]; rfl)
  exact ⟨this, by rw [gotM, this, hm]⟩
theorem pass_end {r : RingV} {s : SubV} (h : PassUpto r s (aheadL r s).length) : passN r s = (aheadL r s).length ∧ gotM r s = none := by
  have : passN r s = (aheadL r s).length := take_all fun j x hj hx => by rw [h j x hj hx]; rfl
  exact ⟨this, by rw [gotM, this]; exact List.getElem?_eq_none (Nat.le_refl _)⟩
/-- Where its cursor stands. -/
structure AtIs (r : RingV) (s : SubV) : Prop where
  off : s.cursor - (r.sent - r.items.length) = (offN r s : Nat)
  len : ((aheadL r s).length : Int) = r.sent - s.cursor
  fit : offN r s + (aheadL r s).length = r.items.length
theorem ReadIs.stands {r : RingV} (h : ReadIs r) {k : Nat} {s : SubV} (hs : r.subs[k]? = some s) (hg : ¬ goneQ r s > 0) : AtIs r s := by
  have hm := leastI_mem (l := r.sent) (List.mem_of_getElem? hs)
  have hi := h.items
  have h1 := h.sent1
  have hq := h.sub k s hs
  have := hq.start; have := hq.cur1; have := hq.cur2
  have ho : oldestI r ≤ s.cursor := by
    unfold goneQ at hg
    simp only [oldestI]
    repeat' split
    all_goals omega
  have e : s.cursor - (r.sent - r.items.length) = (offN r s : Nat) := by unfold offN; omega
  have hle : offN r s ≤ r.items.length := by omega
  refine ⟨e, ?_, ?_⟩
  · simp only [aheadL, List.length_drop]; omega
  · simp only [aheadL, List.length_drop]; omega
theorem ahead_at {r : RingV} {s : SubV} {i : Nat} {m : MsgV} (h : (aheadL r s)[i]? = some m) : r.items[offN r s + i]? = some m := by
  rw [aheadL, List.getElem?_drop] at h; exact h
theorem ReadIs.msg {r : RingV} (h : ReadIs r) {i : Nat} {m : MsgV} (hm : r.items[i]? = some m) : msgB m = true := List.all_eq_true.1 h.msgs m (List.mem_of_getElem? hm)
/-- What is read, of the k-th; nothing goes yet. -/
def readK (r : RingV) (k : Nat) (s : SubV) : RingV := { r with subs := r.subs.set k (readS r s) }
theorem trim_fitR {r q : RingV} (hI : ReadIs r) (hc : q.cap = r.cap) (hs : r.sent ≤ q.sent) (hi : (q.items.length : Int) = r.items.length + (q.sent - r.sent)) (h : ∀ s ∈ q.subs, ∃ p ∈ r.subs, p.cursor ≤ s.cursor) :
    0 ≤ q.sent - oldestI q ∧ q.sent - oldestI q ≤ q.items.length := by
  have h1 := oldestI_mono hc hs h
  have h2 := oldestI_in (r := q) (by have := hI.sent1; omega) (by rw [hc]; exact hI.cap1)
  have h3 := hI.items
  omega
/-- A ring of which one Sub is turned, and that Sub alone. -/
structure OneFit (r : RingV) (g : List SubV) : Prop where
  ok : okRing ⟨r.cap, r.sent, r.items, r.next, g, r.line, r.grants, r.closed⟩
  f1 : 0 ≤ r.sent - oldestI ⟨r.cap, r.sent, r.items, r.next, g, r.line, r.grants, r.closed⟩
  f2 : r.sent - oldestI ⟨r.cap, r.sent, r.items, r.next, g, r.line, r.grants, r.closed⟩ ≤ r.items.length
theorem one_fit {r : RingV} (hr : okRing r) (hI : ReadIs r) {g : List SubV} {k : Nat} {s q : SubV} (hs : r.subs[k]? = some s) (ht : Turn r.subs g k q) (hc : s.cursor ≤ q.cursor) (hf : q.filter = s.filter) : OneFit r g := by
  have h := trim_fitR (r := r) (q := ⟨r.cap, r.sent, r.items, r.next, g, r.line, r.grants, r.closed⟩) hI rfl (Int.le_refl _) (by simp) (by
    simp only [ht.eq]
    exact subs_set hs hc)
  refine ⟨⟨hr.1, ?_, hr.2.2⟩, h.1, h.2⟩
  simp only [ht.eq]
  exact okSubS_set hs hf hr.2.1
theorem readK_turn {r : RingV} {k : Nat} {s : SubV} {g : List SubV} (h : Turn r.subs g k (readS r s)) : readK r k s = ⟨r.cap, r.sent, r.items, r.next, g, r.line, r.grants, r.closed⟩ := by
  simp only [readK, h.eq]
end Go.Proofs.Ytlgdijjkegeccaa
