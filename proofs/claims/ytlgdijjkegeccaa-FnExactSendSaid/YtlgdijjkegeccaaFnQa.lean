/- What readings one behind the other come to. -/
import Derived.Test.YtlgdijjkegeccaaFnRc
namespace Go.Proofs.Ytlgdijjkegeccaa
open Go Go.RowKit Go.Bv
set_option linter.unusedSimpArgs false
set_option linter.unusedVariables false
set_option maxRecDepth 4000
set_option maxHeartbeats 1000000

theorem passN_le (r : RingV) (s : SubV) : passN r s ≤ (aheadL r s).length := by
  unfold passN
  have h : ∀ (L : List MsgV) (p : MsgV → Bool), (L.takeWhile p).length ≤ L.length := fun L p => by
    induction L with
    | nil => simp
    | cons x L ih => rw [List.takeWhile_cons]; split <;> simp <;> omega
  exact h _ _
theorem gotM_lt {r : RingV} {s : SubV} {m : MsgV} (h : gotM r s = some m) : passN r s < (aheadL r s).length := (List.getElem?_eq_some_iff.1 h).1
theorem subIs_mk {r q : RingV} {s t : SubV} (hs : q.sent = r.sent) (h0 : t.start = s.start) (hf : t.filter = s.filter) (h : SubIs r s) (hc : s.cursor ≤ t.cursor) (hl : t.cursor ≤ r.sent) (g : 0 ≤ t.got) (l : 0 ≤ t.lost) (p : 0 ≤ t.passed)
    (hsum : t.got + t.lost + t.passed = t.cursor - t.start) : SubIs q t := by
  have := h.start; have := h.cur1
  exact ⟨by omega, by omega, by omega, by rw [hf]; exact h.filter, g, by omega, l, by omega, p, by omega, hsum⟩
theorem readS_is {r q : RingV} (hI : ReadIs r) {k : Nat} {s : SubV} (hs : r.subs[k]? = some s) (hq : q.sent = r.sent) : SubIs q (readS r s) := by
  have h := hI.sub k s hs
  have := h.start; have := h.cur1; have := h.cur2; have := h.got1; have := h.lost1; have := h.pass1; have hsum := h.sum; have := hI.cap1
  unfold readS
  split
  · rename_i hg
    have hg' := hg
    unfold goneQ at hg
    exact subIs_mk (s := s) hq rfl rfl h (by simp only; omega) (by simp only [goneQ]; omega) (by simp only; omega) (by simp only; omega) (by simp only; omega) (by simp only; omega)
  · rename_i hg
    have hA := hI.stands hs hg
    have hal := hA.len
    have hle := passN_le r s
    split
    · rename_i m hm
      have hlt := gotM_lt hm
      exact subIs_mk (s := s) hq rfl rfl h (by simp only; omega) (by simp only; omega) (by simp only; omega) (by simp only; omega) (by simp only; omega) (by simp only; omega)
    · exact subIs_mk (s := s) hq rfl rfl h (by simp only; omega) (by simp only; omega) (by simp only; omega) (by simp only; omega) (by simp only; omega) (by simp only; omega)
theorem subIs_sent {r q : RingV} {s : SubV} (hs : q.sent = r.sent) (h : SubIs r s) : SubIs q s := ⟨h.start, h.cur1, by rw [hs]; exact h.cur2, h.filter, h.got1, h.got2, h.lost1, h.lost2, h.pass1, h.pass2, h.sum⟩
theorem subIs_set {r q : RingV} (hI : ReadIs r) {k : Nat} {s t : SubV} (hs : r.subs[k]? = some s) (hq : q.sent = r.sent) (ht : SubIs q t) : ∀ (i : Nat) (x : SubV), (r.subs.set k t)[i]? = some x → SubIs q x := by
  intro i x hx
  by_cases e : k = i
  · subst e
    rw [List.getElem?_set_self (List.getElem?_eq_some_iff.1 hs).1, Option.some.injEq] at hx
    rw [← hx]; exact ht
  · rw [List.getElem?_set_ne e] at hx
    exact subIs_sent hq (hI.sub i x hx)
theorem oldest_trim (r : RingV) : oldestI (trimR r) = oldestI r := rfl
/-- A ring that is trimmed keeps just what it must. -/
theorem trim_items {q : RingV} (h1 : 0 ≤ q.sent - oldestI q) (h2 : q.sent - oldestI q ≤ q.items.length) : ((trimR q).items.length : Int) = (trimR q).sent - oldestI (trimR q) := by
  rw [oldest_trim]
  have e : (trimR q).sent = q.sent := rfl
  rw [e]
  simp only [trimR, trimN, List.length_drop]
  omega
theorem trim_msgs {q : RingV} (h : q.items.all msgB = true) : (trimR q).items.all msgB = true := by
  rw [List.all_eq_true] at h ⊢
  exact fun x hx => h x (List.mem_of_mem_drop hx)
theorem trim_ok {q : RingV} (h : okRing q) : okRing (trimR q) := by
  refine ⟨⟨?_, fun x hx => h.1.2 x (List.mem_of_mem_drop hx)⟩, h.2⟩
  have := h.1.1
  simp only [trimR, List.length_drop]; omega
theorem atI_set {f : List SubV} {id : Int} {k : Nat} {s t : SubV} (hk : atI f id = k) (hs : f[k]? = some s) (ht : t.id = s.id) : atI (f.set k t) id = k := by
  rcases idxP_cases (fun s : SubV => s.id == id) f with ⟨h1, _⟩ | ⟨i, x, h1, h2, h3, h4, h5⟩
  · unfold atI at hk; rw [h1] at hk; omega
  · have hi : i = k := by unfold atI at hk; rw [h1] at hk; omega
    subst hi
    rw [h3, Option.some.injEq] at hs
    subst hs
    refine idxP_some (x := t) (by rw [List.getElem?_set_self h2]) (by simpa [ht] using h4) fun j y hj hy => ?_
    rw [List.getElem?_set_ne (by omega)] at hy
    exact h5 j y hj hy
/-- What a reading keeps. -/
structure Reads (r : RingV) (k : Nat) (s : SubV) (id : Int) : Prop where
  ok : okRing (readR r k s)
  is : ReadIs (readR r k s)
  at' : atI (readR r k s).subs id = k
  got : (readR r k s).subs[k]? = some (readS r s)
  len : (readR r k s).subs.length = r.subs.length
  w : wRing (readR r k s) ≤ wRing r
theorem reads {r : RingV} (hr : okRing r) (hI : ReadIs r) {k : Nat} {s : SubV} {id : Int} (hk : atI r.subs id = k) (hs : r.subs[k]? = some s) : Reads r k s id := by
  obtain ⟨g, t, hF, hv, _⟩ := readK_fit hr hI hs r.line hr.2.2.1
  have hS := readS_fit hI hs
  have e : (readR r k s).subs = r.subs.set k (readS r s) := rfl
  have ev : readR r k s = trimR ⟨r.cap, r.sent, r.items, r.next, g, r.line, r.grants, r.closed⟩ := by rw [readR, hv]
  refine ⟨?_, ?_, ?_, ?_, ?_, ?_⟩
  · rw [ev]; exact trim_ok hF.ok
  · refine ⟨hI.cap1, hI.cap2, hI.sent1, hI.sent2, ?_, ?_, ?_⟩
    · rw [e]; exact subIs_set hI hs rfl (readS_is hI hs rfl)
    · rw [ev]; exact trim_items hF.f1 hF.f2
    · exact trim_msgs (q := readK r k s) hI.msgs
  · rw [e]; exact atI_set hk hs hS.2.2
  · rw [e]; exact t.eq ▸ t.got
  · rw [e, List.length_set]
  · rw [ev]
    refine Nat.le_trans (trim_w _) ?_
    have := t.w hs hS.2.1
    simp only [wRing, this]; exact Nat.le_refl _
/-- At most n readings, till one tells nothing: the ring, what is told, the code. -/
def pullG : Nat → RingV → Nat → RingV × List ToldV × Int
  | 0, r, _ => (r, [], 0)
  | n + 1, r, k => match r.subs[k]? with
    | none => (r, [], 0)
    | some s => if readC r s = 0 then ((pullG n (readR r k s) k).1, readT r s :: (pullG n (readR r k s) k).2.1, (pullG n (readR r k s) k).2.2) else (readR r k s, [], readC r s)
theorem pull_done {n : Nat} {r : RingV} {k : Nat} {s : SubV} (hs : r.subs[k]? = some s) (hc : readC r s = 0) : pullG (n + 1) r k = ((pullG n (readR r k s) k).1, readT r s :: (pullG n (readR r k s) k).2.1, (pullG n (readR r k s) k).2.2) := by
  simp only [pullG, hs, hc, if_true]
theorem pull_stop {n : Nat} {r : RingV} {k : Nat} {s : SubV} (hs : r.subs[k]? = some s) (hc : readC r s ≠ 0) : pullG (n + 1) r k = (readR r k s, [], readC r s) := by
  simp only [pullG, hs, if_neg hc]
theorem msg_w {m : MsgV} (h : msgB m = true) : wMsg m ≤ 40 := by
  have he : ∀ s : ByteArray, isE s = true → s.size = 0 := fun s h => by
    simp only [isE, beq_iff_eq] at h
    rw [ByteArray.toList_eq, ByteArray.toList_eq] at h
    have h2 : s.data = #[] := Array.toList_inj.1 (by simpa using h)
    simp [ByteArray.size, h2]
  unfold msgB at h
  unfold wMsg
  split at h
  · simp only [Bool.and_eq_true] at h
    have := he _ h.2
    omega
  · split at h
    · simp only [Bool.and_eq_true, decide_eq_true_eq] at h
      omega
    · cases h
theorem readT_w {r : RingV} (hI : ReadIs r) (s : SubV) : wTold (readT r s) ≤ 40 := by
  unfold readT
  split
  · exact Nat.zero_le _
  · split
    · rename_i m hm
      have h2 : m ∈ r.items := List.mem_of_mem_drop (List.mem_of_getElem? (show (aheadL r s)[passN r s]? = some m from hm))
      exact msg_w (List.all_eq_true.1 hI.msgs m h2)
    · exact Nat.zero_le _
theorem pull_w {id : Int} {k : Nat} : ∀ {n : Nat} {r : RingV}, okRing r → ReadIs r → atI r.subs id = k → wRing (pullG n r k).1 ≤ wRing r ∧ (pullG n r k).2.1.length ≤ n ∧ sumL wTold (pullG n r k).2.1 ≤ n * 40
  | 0, r, _, _, _ => by simp [pullG, sumL]
  | n + 1, r, hr, hI, hk => by
    cases hs : r.subs[k]? with
    | none => simp [pullG, hs, sumL]
    | some s =>
      have h := reads hr hI hk hs
      by_cases hc : readC r s = 0
      · obtain ⟨a, b, c⟩ := pull_w (n := n) h.ok h.is h.at'
        rw [pull_done hs hc]
        have ht := readT_w hI s
        have hw := h.w
        refine ⟨by simp only; omega, by simp only [List.length_cons]; omega, ?_⟩
        simp only [sumL, List.map_cons, List.sum_cons] at c ⊢
        omega
      · rw [pull_stop hs hc]
        exact ⟨h.w, by simp, by simp [sumL]⟩
end Go.Proofs.Ytlgdijjkegeccaa
