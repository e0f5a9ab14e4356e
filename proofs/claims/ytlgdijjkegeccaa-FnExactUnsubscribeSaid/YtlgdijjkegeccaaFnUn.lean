/- Contracts: Unsubscribe, of the program. -/
import Derived.Test.YtlgdijjkegeccaaFnDl
import Derived.Test.YtlgdijjkegeccaaKU
import Derived.Test.YtlgdijjkegeccaaBvM5
namespace Go.Proofs.Ytlgdijjkegeccaa
open Go Go.RowKit Go.Bv
set_option linter.unusedSimpArgs false
set_option linter.unusedVariables false
set_option maxRecDepth 4000
set_option maxHeartbeats 4000000
/-! The walks that end. -/
theorem wFnUn37_0 {p : Prop} (h : p := by
  have E0 := @encRing.eq_1
  have E1 := @zeroRing.eq_1
  refine snd_b hT Try.func37 Try.results37 Try.ntmps37 ?_
  exact wk) : p := h
theorem wFnUn37_1 {p : Prop} (h : p := by
  have E0 := @encRing.eq_1
  have E1 := @zeroRing.eq_1
  have E2 := @unsubR0.eq_1
  refine snd_b hT Try.func37 Try.results37 Try.ntmps37 ?_
  exact wk) : p := h
-- VIEWS

def unsubC (r : RingV) (id : Int) : Int := if ringB r then (if atI r.subs id < 0 then 3 else 0) else 1
def unsubR0 (r : RingV) (id : Int) (k : Nat) : RingV := ⟨r.cap, r.sent, r.items, r.next, lessS r.subs k, r.line.filter fun x => !(x == id), r.grants.filter fun x => !(x == id), r.closed⟩
def unsubR (r : RingV) (id : Int) : RingV := if unsubC r id = 0 then trimR (unsubR0 r id (atI r.subs id).toNat) else r
theorem lessS_mem {f : List SubV} {k : Nat} {s : SubV} (h : s ∈ lessS f k) : s ∈ f := by
  rcases List.mem_append.1 h with h | h
  · exact List.mem_of_mem_take h
  · exact List.mem_of_mem_drop h
theorem sumL_take {α : Type} (g : α → Nat) (f : List α) (n : Nat) : sumL g (f.take n) + sumL g (f.drop n) = sumL g f := by
  have := sumL_append g (f.take n) (f.drop n)
  rw [List.take_append_drop] at this
  omega
theorem lessS_w (f : List SubV) (k : Nat) : wSubS (lessS f k) ≤ wSubS f := by
  have h1 := sumL_take wSub f k
  have h2 := sumL_drop wSub (f.drop k) 1
  rw [List.drop_drop] at h2
  have h3 := sumL_append wSub (f.take k) (f.drop (k + 1))
  have h4 : (lessS f k).length ≤ f.length := by simp [lessS]; omega
  simp only [wSubS, lessS] at h4 ⊢
  omega
theorem unsub_fit {r : RingV} (hr : okRing r) (hI : RingIs r) (id : Int) (k : Nat) : okRing (unsubR0 r id k) ∧ 0 ≤ r.sent - oldestI (unsubR0 r id k) ∧ r.sent - oldestI (unsubR0 r id k) ≤ r.items.length := by
  have hf := trim_fit (r := r) (q := unsubR0 r id k) hI rfl (Int.le_refl _) (by simp [unsubR0]) fun s hs => ⟨s, lessS_mem hs, Int.le_refl _⟩
  refine ⟨⟨hr.1, ⟨?_, fun s hs => hr.2.1.2 s (lessS_mem hs)⟩, ⟨?_, fun _ _ => trivial⟩, ⟨?_, fun _ _ => trivial⟩⟩, hf.1, hf.2⟩
  · have := hr.2.1.1
    simp only [unsubR0, lessS, List.length_append, List.length_take, List.length_drop]; omega
  · exact Nat.lt_of_le_of_lt (List.length_filter_le _ _) hr.2.2.1.1
  · exact Nat.lt_of_le_of_lt (List.length_filter_le _ _) hr.2.2.2.1
theorem unsub_w (r : RingV) (id : Int) : wRing (unsubR r id) ≤ wRing r := by
  unfold unsubR
  split
  · refine Nat.le_trans (trim_w _) ?_
    have h1 := lessS_w r.subs (atI r.subs id).toNat
    have h2 := List.length_filter_le (fun x => !(x == id)) r.line
    have h3 := List.length_filter_le (fun x => !(x == id)) r.grants
    have h4 := sumL_filter wInt (fun x => !(x == id)) r.line
    have h5 := sumL_filter wInt (fun x => !(x == id)) r.grants
    simp only [unsubR0, wRing, wIntS]
    omega
  · exact Nat.le_refl _
theorem c_impl_Unsubscribe (r : RingV) (id : Int) {u : AV} (hu : u = encRing false r) (hr : okRing r) (hw : wRing r ≤ 4194304) (l1 : r.line.length ≤ 1048576) (l2 : r.grants.length ≤ 1048576) (l3 : r.items.length ≤ 1048576) : Sound P 37 [u, .int .i64 id] (.tup [encRing true (unsubR r id), .int .i64 (unsubC r id)]) := by
  subst hu
  have m1 : r.line.length < 4611686018427387904 := by omega
  have m2 : r.grants.length < 4611686018427387904 := by omega
  have m3 : r.items.length ≤ 4194304 := by omega
  have m4 : r.line.length ≤ 4194304 := by omega
  have m5 : r.grants.length ≤ 4194304 := by omega
  have hl : r.subs.length < 4611686018427387904 := hr.2.1.1
  cases hB : ringB r
  · have hc : unsubC r id = 1 := by simp [unsubC, hB]
    have hv : unsubR r id = r := by simp [unsubR, hc]
    rw [hv, hc]
    clear hc hv
    exact wFnUn37_0
  by_cases hneg : atI r.subs id < 0
  · have hc : unsubC r id = 3 := by simp [unsubC, hB, hneg]
    have hv : unsubR r id = r := by simp [unsubR, hc]
    rw [hv, hc]
    clear hc hv
    have hg : decide (atI r.subs id < 0) = true := decide_eq_true hneg
    exact wFnUn37_0
  obtain ⟨k, s, hk, hkl, hks, _⟩ := atI_at (f := r.subs) (id := id) (by omega)
  have hg : decide ((k : Int) < 0) = false := decide_eq_false (by omega)
  have hc : unsubC r id = 0 := by simp [unsubC, hB, hneg]
  have hv : unsubR r id = trimR (unsubR0 r id k) := by simp only [unsubR, hc, if_true, hk, Int.toNat_natCast]
  have hI := ringIs hB
  obtain ⟨ho, f1, f2⟩ := unsub_fit hr hI id k
  have hb1 : -9223372036854775808 ≤ r.sent - r.cap := by have := hI.cap2; have := hI.sent1; omega
  have hb2 : r.sent - r.cap ≤ 9223372036854775807 := by have := hI.cap1; have := hI.sent2; omega
  have w1 : IntKind.i64.wrap ((k : Int) + 1) = ((k + 1 : Nat) : Int) := by rw [wrap_small] <;> omega
  rw [hv, hc]
  clear hc hv hneg hI hks
  exact wFnUn37_1
noncomputable abbrev ic_impl_Unsubscribe := Con.mk (P := P) (f := 37) Try.call37 @c_impl_Unsubscribe
attribute [instance] ic_impl_Unsubscribe
end Go.Proofs.Ytlgdijjkegeccaa
