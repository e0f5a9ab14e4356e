/- Contracts: Unwait, of the program. Contracts: Unwait; the law. -/
import Derived.Test.YtlgdijjkegeccaaFnS
import Derived.Test.YtlgdijjkegeccaaFnCp
import Derived.Test.YtlgdijjkegeccaaFnSs
namespace Go.Proofs.Ytlgdijjkegeccaa
open Go Go.RowKit Go.Bv
set_option linter.unusedSimpArgs false
set_option linter.unusedVariables false
set_option maxRecDepth 4000
set_option maxHeartbeats 1000000
/-! The walks that end. -/
theorem wFnUi47_0 {p : Prop} (h : p := by
  have E0 := @encRing.eq_1
  have E1 := @zeroRing.eq_1
  refine snd_b hT Try.func47 Try.results47 Try.ntmps47 ?_
  exact wk) : p := h

def unwaitB (r : RingV) (id : Int) : Bool := r.line.any (· == id) || r.grants.any (· == id)
def unwaitR (r : RingV) (id : Int) : RingV := if ringB r && unwaitB r id then { r with line := r.line.filter fun x => !(x == id), grants := r.grants.filter fun x => !(x == id) } else r
def unwaitC (r : RingV) (id : Int) : Int := if ringB r then (if unwaitB r id then 0 else 3) else 1
theorem c_impl_Unwait (r : RingV) (id : Int) {u : AV} (hu : u = encRing false r) (hr : okRing r) (hw : wRing r ≤ 4194304) (h1 : r.line.length ≤ 1048576) (h2 : r.grants.length ≤ 1048576) : Sound P 47 [u, .int .i64 id] (.tup [encRing true (unwaitR r id), .int .i64 (unwaitC r id)]) := by
  subst hu
  have l1 : r.line.length < 4611686018427387904 := hr.2.2.1.1
  have l2 : r.grants.length < 4611686018427387904 := hr.2.2.2.1
  have h3 : r.line.length ≤ 4194304 := by omega
  have h4 : r.grants.length ≤ 4194304 := by omega
  cases hB : ringB r
  · have hv : unwaitR r id = r := by simp [unwaitR, hB]
    have hc : unwaitC r id = 1 := by simp [unwaitC, hB]
    rw [hv, hc]
    clear hv hc
    exact wFnUi47_0
  rcases (by cases r.line.any (· == id) <;> cases r.grants.any (· == id) <;> simp : (r.line.any (· == id) = false ∧ r.grants.any (· == id) = false) ∨ r.line.any (· == id) = true ∨ (r.line.any (· == id) = false ∧ r.grants.any (· == id) = true)) with hL | hL | hL
  · obtain ⟨hL, hG⟩ := hL
    have hv : unwaitR r id = r := by simp only [unwaitR, unwaitB, hB, hL, hG]; rfl
    have hc : unwaitC r id = 3 := by simp only [unwaitC, unwaitB, hB, hL, hG]; rfl
    rw [hv, hc]
    clear hv hc
    exact wFnUi47_0
  · have hv : unwaitR r id = { r with line := r.line.filter fun x => !(x == id), grants := r.grants.filter fun x => !(x == id) } := by simp only [unwaitR, unwaitB, hB, hL]; rfl
    have hc : unwaitC r id = 0 := by simp only [unwaitC, unwaitB, hB, hL]; rfl
    rw [hv, hc]
    clear hv hc
    exact wFnUi47_0
  · obtain ⟨hL, hG⟩ := hL
    have hv : unwaitR r id = { r with line := r.line.filter fun x => !(x == id), grants := r.grants.filter fun x => !(x == id) } := by simp only [unwaitR, unwaitB, hB, hL, hG]; rfl
    have hc : unwaitC r id = 0 := by simp only [unwaitC, unwaitB, hB, hL, hG]; rfl
    rw [hv, hc]
    clear hv hc
    exact wFnUi47_0
noncomputable abbrev ic_impl_Unwait := Con.mk (P := P) (f := 47) Try.call47 @c_impl_Unwait
attribute [instance] ic_impl_Unwait
theorem sumL_filter {α : Type} (g : α → Nat) (p : α → Bool) (f : List α) : sumL g (f.filter p) ≤ sumL g f := by
  induction f with
  | nil => simp
  | cons x f ih =>
    rw [List.filter_cons]
    split <;> simp only [sumL, List.map_cons, List.sum_cons] at ih ⊢ <;> omega
theorem unwait_w (r : RingV) (id : Int) : wRing (unwaitR r id) ≤ wRing r := by
  unfold unwaitR
  split
  · simp only [wRing, wIntS]
    have a := List.length_filter_le (fun x => !(x == id)) r.line
    have b := List.length_filter_le (fun x => !(x == id)) r.grants
    have c := sumL_filter wInt (fun x => !(x == id)) r.line
    have d := sumL_filter wInt (fun x => !(x == id)) r.grants
    omega
  · exact Nat.le_refl _
end Go.Proofs.Ytlgdijjkegeccaa
namespace Go.Proofs.Ytlgdijjkegeccaa
open Go Go.RowKit Go.Bv
set_option linter.unusedSimpArgs false
set_option linter.unusedVariables false
set_option maxRecDepth 4000
set_option maxHeartbeats 1000000

theorem RingIs.nodup {r : RingV} (h : RingIs r) : (r.line ++ r.grants).Nodup := by
  have hw := h.waits
  rw [waitB, Bool.and_eq_true, allTo_iff] at hw
  refine nodup_of_take fun i id hi => ?_
  have := hw.1 i (List.getElem?_eq_some_iff.1 hi).1
  unfold waitQ at this
  rw [hi] at this
  simp only [Bool.and_eq_true, Bool.not_eq_true'] at this
  exact this.1.2
theorem RingIs.line {r : RingV} (h : RingIs r) : r.line.Nodup := (List.nodup_append.1 h.nodup).1
theorem RingIs.grants {r : RingV} (h : RingIs r) : r.grants.Nodup := (List.nodup_append.1 h.nodup).2.1
end Go.Proofs.Ytlgdijjkegeccaa
