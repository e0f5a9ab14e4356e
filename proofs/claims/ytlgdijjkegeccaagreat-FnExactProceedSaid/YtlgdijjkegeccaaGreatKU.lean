/- Contracts: Unwait, of the program. Contracts: Unwait; the law. -/
import Derived.Test.YtlgdijjkegeccaaGreatFnS
import Derived.Test.YtlgdijjkegeccaaGreatFnCp
import Derived.Test.YtlgdijjkegeccaaGreatFnSs
namespace Go.Proofs.YtlgdijjkegeccaaGreat
open Go Go.RowKit Go.Bv
set_option linter.unusedSimpArgs false
set_option linter.unusedVariables false
set_option maxRecDepth 4000
set_option maxHeartbeats 1000000

def unwaitB (r : RingV) (id : Int) : Bool := r.line.any (· == id) || r.grants.any (· == id)
def unwaitR (r : RingV) (id : Int) : RingV := if ringB r && unwaitB r id then { r with line := r.line.filter fun x => !(x == id), grants := r.grants.filter fun x => !(x == id) } else r
def unwaitC (r : RingV) (id : Int) : Int := if ringB r then (if unwaitB r id then 0 else 3) else 1
theorem sumL_filter {α : Type} (g : α → Nat) (p : α → Bool) (f : List α) : sumL g (f.filter p) ≤ sumL g f := by
  induction f with
  | nil => simp
  | cons x f ih =>
    rw [List.filter_cons]
    split <;> simp only [sumL, List.map_cons, List.sum_cons] at ih ⊢ <;> omega
theorem unwait_w (r : RingV) (id : Int) : wRing (unwaitR r id) ≤ wRing r := by
  unfold unwaitR
  split
  · simp only [wRing, wIntS]
    have a := List.length_filter_le (fun x => !(x == id)) r.line
    have b := List.length_filter_le (fun x => !(x == id)) r.grants
    have c := sumL_filter wInt (fun x => !(x == id)) r.line
    have d := sumL_filter wInt (fun x => !(x == id)) r.grants
    omega
  · exact Nat.le_refl _
end Go.Proofs.YtlgdijjkegeccaaGreat
namespace Go.Proofs.YtlgdijjkegeccaaGreat
open Go Go.RowKit Go.Bv
set_option linter.unusedSimpArgs false
set_option linter.unusedVariables false
set_option maxRecDepth 4000
set_option maxHeartbeats 1000000

theorem RingIs.nodup {r : RingV} (h : RingIs r) : (r.line ++ r.grants).Nodup := by
  have hw := h.waits
  rw [waitB, Bool.and_eq_true, allTo_iff] at hw
  refine nodup_of_take fun i id hi => ?_
  have := hw.1 i (List.getElem?_eq_some_iff.1 hi).1
  unfold waitQ at this
  rw [hi] at this
  simp only [Bool.and_eq_true, Bool.not_eq_true'] at this
  exact this.1.2
theorem RingIs.line {r : RingV} (h : RingIs r) : r.line.Nodup := (List.nodup_append.1 h.nodup).1
theorem RingIs.grants {r : RingV} (h : RingIs r) : r.grants.Nodup := (List.nodup_append.1 h.nodup).2.1
end Go.Proofs.YtlgdijjkegeccaaGreat
