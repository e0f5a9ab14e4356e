/- What a sending comes to. -/
import Derived.Test.YtlgdijjkegeccaaFnQa
import Derived.Test.YtlgdijjkegeccaaKU
namespace Go.Proofs.Ytlgdijjkegeccaa
open Go Go.RowKit Go.Bv
set_option linter.unusedSimpArgs false
set_option linter.unusedVariables false
set_option maxRecDepth 4000
set_option maxHeartbeats 1000000

def upS (s : SubV) : SubV := ⟨s.id, s.start, s.cursor + 1, s.got, s.lost, s.passed + 1, s.filter⟩
/-- Is id told of m? -/
def tellsB (r : RingV) (m : MsgV) (id : Int) : Bool := match r.subs[(atI r.subs id).toNat]? with
  | some s => leftB s.filter m
  | none => false
def sendSub (r : RingV) (m : MsgV) (f : List SubV) (id : Int) : List SubV := match r.subs[(atI r.subs id).toNat]? with
  | some s => if leftB s.filter m then f else f.set (atI r.subs id).toNat (upS s)
  | none => f
def sendTo (r : RingV) (m : MsgV) (i : Nat) : List SubV := (r.line.take i).foldl (sendSub r m) r.subs
def toldTo (r : RingV) (m : MsgV) (i : Nat) : List Int := (r.line.take i).filter (tellsB r m)
def stayTo (r : RingV) (m : MsgV) (i : Nat) : List Int := (r.line.take i).filter fun id => !tellsB r m id
def sendR0 (r : RingV) (m : MsgV) : RingV := ⟨r.cap, r.sent + 1, r.items ++ [m], r.next, sendTo r m r.line.length, stayTo r m r.line.length, r.grants ++ toldTo r m r.line.length, r.closed⟩
def sendB (r : RingV) (m : MsgV) : Bool := ringB r && !r.closed && msgB m && !(r.sent == 1000000000)
def sendR (r : RingV) (m : MsgV) : RingV := if sendB r m then trimR (sendR0 r m) else r
def sendL (r : RingV) (m : MsgV) : List Int := if sendB r m then toldTo r m r.line.length else []
def sendC (r : RingV) (m : MsgV) : Int := if ringB r then (if r.closed then 6 else if msgB m then (if r.sent == 1000000000 then 2 else 0) else 1) else 1
theorem take_at {α : Type} {f : List α} {i : Nat} {x : α} (h : f[i]? = some x) : f.take (i + 1) = f.take i ++ [x] := by
  rw [List.take_add_one, h, Option.toList_some]
theorem toldTo_succ {r : RingV} {m : MsgV} {i : Nat} {id : Int} (h : r.line[i]? = some id) : toldTo r m (i + 1) = if tellsB r m id then toldTo r m i ++ [id] else toldTo r m i := by
  unfold toldTo
  rw [take_at h, List.filter_append]
  cases ht : tellsB r m id <;> simp [List.filter_cons, ht]
theorem stayTo_succ {r : RingV} {m : MsgV} {i : Nat} {id : Int} (h : r.line[i]? = some id) : stayTo r m (i + 1) = if tellsB r m id then stayTo r m i else stayTo r m i ++ [id] := by
  unfold stayTo
  rw [take_at h, List.filter_append]
  cases ht : tellsB r m id <;> simp [List.filter_cons, ht]
theorem sendTo_succ {r : RingV} {m : MsgV} {i : Nat} {id : Int} (h : r.line[i]? = some id) : sendTo r m (i + 1) = sendSub r m (sendTo r m i) id := by
  unfold sendTo
  rw [take_at h, List.foldl_append]; rfl
theorem RingIs.stands {r : RingV} (h : RingIs r) {i : Nat} {id : Int} (hi : r.line[i]? = some id) : ∃ (k : Nat) (s : SubV), atI r.subs id = k ∧ k < r.subs.length ∧ r.subs[k]? = some s ∧ s.id = id ∧ s.cursor = r.sent := by
  have hw := h.waits
  rw [waitB, Bool.and_eq_true, allTo_iff] at hw
  have hil := (List.getElem?_eq_some_iff.1 hi).1
  have hia : (r.line ++ r.grants)[i]? = some id := by rw [List.getElem?_append_left hil]; exact hi
  have := hw.1 i (List.getElem?_eq_some_iff.1 hia).1
  unfold waitQ at this
  rw [hia] at this
  simp only [Bool.and_eq_true, decide_eq_true_eq, Bool.or_eq_true, Bool.not_eq_true', decide_eq_false_iff_not] at this
  obtain ⟨k, s, hk, hkl, hks, hid⟩ := atI_at this.1.1
  refine ⟨k, s, hk, hkl, hks, by simpa using hid, ?_⟩
  rcases this.2 with h2 | h2
  · omega
  · rw [hk, Int.toNat_natCast, hks] at h2
    simpa using h2
/-- The Subs when the first i are done. -/
structure SendAt (r : RingV) (m : MsgV) (i : Nat) (F : List SubV) : Prop where
  eq : F = sendTo r m i
  same : ∀ j id, i ≤ j → r.line[j]? = some id → F[(atI r.subs id).toNat]? = r.subs[(atI r.subs id).toNat]?
  len : F.length = r.subs.length
  ok : okSubS F
  cur : ∀ s ∈ F, ∃ p ∈ r.subs, p.cursor ≤ s.cursor
  w : wSubS F = wSubS r.subs
theorem send_zero {r : RingV} (hr : okRing r) (m : MsgV) : SendAt r m 0 r.subs :=
  ⟨rfl, fun _ _ _ _ => rfl, rfl, hr.2.1, fun s hs => ⟨s, hs, Int.le_refl _⟩, rfl⟩
theorem tells_at {r : RingV} {m : MsgV} {id : Int} {k : Nat} {s : SubV} (hk : atI r.subs id = k) (hs : r.subs[k]? = some s) : tellsB r m id = leftB s.filter m := by
  unfold tellsB
  rw [hk, Int.toNat_natCast, hs]
theorem SendAt.told {r : RingV} {m : MsgV} {i : Nat} {F : List SubV} (h : SendAt r m i F) {id : Int} {k : Nat} {s : SubV} (hi : r.line[i]? = some id) (hk : atI r.subs id = k) (hs : r.subs[k]? = some s) (ht : leftB s.filter m = true) : SendAt r m (i + 1) F := by
  refine ⟨?_, fun j id hj => h.same j id (by omega), h.len, h.ok, h.cur, h.w⟩
  rw [sendTo_succ hi, sendSub, hk, Int.toNat_natCast, hs]
  simp only [ht, if_true]
  exact h.eq
theorem SendAt.stay {r : RingV} {m : MsgV} {i : Nat} {F G : List SubV} (hI : RingIs r) (h : SendAt r m i F) {id : Int} {k : Nat} {s : SubV} (hi : r.line[i]? = some id) (hk : atI r.subs id = k) (hs : r.subs[k]? = some s) (hid : s.id = id) (ht : leftB s.filter m = false) (hg : Turn F G k (upS s)) : SendAt r m (i + 1) G := by
  have hFk : F[k]? = some s := by
    have := h.same i id (Nat.le_refl _) hi
    rw [hk, Int.toNat_natCast, hs] at this
    exact this
  refine ⟨?_, fun j id' hj hj' => ?_, by rw [hg.len, h.len], ?_, ?_, ?_⟩
  · rw [sendTo_succ hi, sendSub, hk, Int.toNat_natCast, hs]
    simp only [ht, Bool.false_eq_true, if_false]
    rw [hg.eq, h.eq]
  · obtain ⟨k', s', hk', _, hks', hid', _⟩ := hI.stands hj'
    rw [← h.same j id' (by omega) hj', hk', Int.toNat_natCast, hg.eq]
    refine List.getElem?_set_ne fun e => ?_
    subst e
    rw [hs, Option.some.injEq] at hks'
    subst hks'
    have hnd := hI.line
    have e2 : id = id' := by rw [← hid, hid']
    subst e2
    have := (List.getElem?_inj (List.getElem?_eq_some_iff.1 hi).1 hnd).1 (hi.trans hj'.symm)
    omega
  · rw [hg.eq]; exact okSubS_set hFk rfl h.ok
  · intro x hx
    rw [hg.eq] at hx
    rcases List.mem_or_eq_of_mem_set hx with hx | rfl
    · exact h.cur x hx
    · exact ⟨s, List.mem_of_getElem? hs, by simp only [upS]; omega⟩
  · rw [hg.w hFk rfl, h.w]
/-- The ring ahead of the trimming fits. -/
theorem send_fit {r : RingV} (hr : okRing r) (hI : RingIs r) {m : MsgV} (hm : okMsg m) {F : List SubV} (h : SendAt r m r.line.length F) (f g : List Int) (hf : okIntS f) (hg : okIntS g) :
    okRing ⟨r.cap, r.sent + 1, r.items ++ [m], r.next, F, f, g, r.closed⟩ ∧ 0 ≤ r.sent + 1 - oldestI ⟨r.cap, r.sent + 1, r.items ++ [m], r.next, F, f, g, r.closed⟩ ∧
    r.sent + 1 - oldestI ⟨r.cap, r.sent + 1, r.items ++ [m], r.next, F, f, g, r.closed⟩ ≤ (r.items ++ [m]).length := by
  have h16 := hI.read.len
  have hfit := trim_fit (r := r) (q := ⟨r.cap, r.sent + 1, r.items ++ [m], r.next, F, f, g, r.closed⟩) hI rfl (by simp only; omega) (by simp only [List.length_append, List.length_cons, List.length_nil]; omega) h.cur
  refine ⟨⟨⟨by simp only [List.length_append, List.length_cons, List.length_nil]; omega, fun x hx => ?_⟩, h.ok, hf, hg⟩, hfit.1, hfit.2⟩
  rcases List.mem_append.1 hx with hx | hx
  · exact hr.1.2 x hx
  · simp only [List.mem_cons, List.not_mem_nil, or_false] at hx
    subst hx; exact hm
theorem toldTo_len (r : RingV) (m : MsgV) (i : Nat) : (toldTo r m i).length ≤ r.line.length := Nat.le_trans (List.length_filter_le _ _) (List.length_take_le' _ _)
theorem stayTo_len (r : RingV) (m : MsgV) (i : Nat) : (stayTo r m i).length ≤ r.line.length := Nat.le_trans (List.length_filter_le _ _) (List.length_take_le' _ _)
theorem RingIs.line12 {r : RingV} (h : RingIs r) : r.line.length + r.grants.length ≤ 12 := by
  have := waitB_len h.waits
  have := h.subs
  omega
theorem wIntS_len (f : List Int) : wIntS f = f.length := by rw [wIntS, sumL_zero wInt fun _ => rfl, Nat.add_zero]
theorem send_all {r : RingV} (hr : okRing r) (hI : RingIs r) (m : MsgV) : ∀ i, i ≤ r.line.length → SendAt r m i (sendTo r m i)
  | 0, _ => send_zero hr m
  | i + 1, hi => by
    have h := send_all hr hI m i (by omega)
    obtain ⟨id, hid⟩ : ∃ id, r.line[i]? = some id := ⟨r.line[i], List.getElem?_eq_getElem (by omega)⟩
    obtain ⟨k, s, hk, hkl, hks, hsi, _⟩ := hI.stands hid
    cases ht : leftB s.filter m
    · have hFk : (sendTo r m i)[k]? = some s := by
        have := h.same i id (Nat.le_refl _) hid
        rw [hk, Int.toNat_natCast, hks] at this
        exact this
      obtain ⟨g, hg⟩ := turn (upS s) hFk
      have := h.stay hI hid hk hks hsi ht hg
      rw [this.eq] at this; exact this
    · have := h.told hid hk hks ht
      rw [this.eq] at this; exact this
theorem send_w {r : RingV} (hr : okRing r) (m : MsgV) : wRing (sendR r m) ≤ wRing r + 60 ∧ (sendL r m).length ≤ 12 := by
  unfold sendR sendL
  cases h : sendB r m
  · simp
  · simp only [if_true]
    have h' := h
    simp only [sendB, Bool.and_eq_true] at h'
    have hI := ringIs h'.1.1.1
    have hm := msg_w h'.1.2
    have hF := send_all hr hI m r.line.length (Nat.le_refl _)
    have hl := hI.line12
    have h1 := toldTo_len r m r.line.length
    have h2 := stayTo_len r m r.line.length
    refine ⟨Nat.le_trans (trim_w _) ?_, by omega⟩
    simp only [sendR0, wRing, wMsgS, hF.w, wIntS_len, List.length_append, List.length_cons, List.length_nil, sumL_append]
    have : sumL wMsg [m] = wMsg m := by simp [sumL]
    omega
end Go.Proofs.Ytlgdijjkegeccaa
