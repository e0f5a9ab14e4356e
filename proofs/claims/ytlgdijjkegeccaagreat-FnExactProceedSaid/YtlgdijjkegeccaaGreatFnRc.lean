/- Contracts: Receive and Peek, of the program. -/
import Derived.Test.YtlgdijjkegeccaaGreatFnRw
import Derived.Test.YtlgdijjkegeccaaGreatFnS
import Derived.Test.YtlgdijjkegeccaaGreatFnCp
import Derived.Test.YtlgdijjkegeccaaGreatBvM5
namespace Go.Proofs.YtlgdijjkegeccaaGreat
open Go Go.RowKit Go.Bv
set_option linter.unusedSimpArgs false
set_option linter.unusedVariables false
set_option maxRecDepth 4000
set_option maxHeartbeats 8000000
-- VIEWS

def busyB (r : RingV) (id : Int) : Bool := r.line.any (· == id) || r.grants.any (· == id)
/-- Which Sub reads. -/
def recvK (r : RingV) (id : Int) : Option (Nat × SubV) := if ringB r && !decide (atI r.subs id < 0) && !busyB r id then (match r.subs[(atI r.subs id).toNat]? with
  | some s => some ((atI r.subs id).toNat, s)
  | none => none) else none
def recvR (r : RingV) (id : Int) : RingV := match recvK r id with
  | some (k, s) => waitR r k s id
  | none => r
def recvT (r : RingV) (id : Int) : ToldV := match recvK r id with
  | some (_, s) => readT r s
  | none => noTold
def recvC (r : RingV) (id : Int) : Int := match recvK r id with
  | some (_, s) => readC r s
  | none => if ringB r then (if atI r.subs id < 0 then 3 else 5) else 1
theorem recv_some {r : RingV} {id : Int} {k : Nat} {s : SubV} (hB : ringB r = true) (hk : atI r.subs id = k) (hks : r.subs[k]? = some s) (hu : busyB r id = false) : recvK r id = some (k, s) := by
  have h : decide ((k : Int) < 0) = false := decide_eq_false (by omega)
  simp only [recvK, hB, hk, h, hu, Bool.not_false, Bool.and_self, if_true, Int.toNat_natCast, hks]
theorem recv_none {r : RingV} {id : Int} (h : ringB r = false ∨ atI r.subs id < 0 ∨ busyB r id = true) : recvK r id = none := by
  unfold recvK
  rw [if_neg]
  rcases h with h | h | h <;> simp [h]
theorem recv_at {r : RingV} {id : Int} {k : Nat} {s : SubV} (h : recvK r id = some (k, s)) : ringB r = true ∧ r.subs[k]? = some s := by
  unfold recvK at h
  split at h
  · rename_i hc
    simp only [Bool.and_eq_true] at hc
    split at h
    · rename_i q hq
      simp only [Option.some.injEq, Prod.mk.injEq] at h
      obtain ⟨rfl, rfl⟩ := h
      exact ⟨hc.1.1, hq⟩
    · cases h
  · cases h
theorem wait_w {r : RingV} {k : Nat} {s : SubV} (hI : ReadIs r) (hs : r.subs[k]? = some s) (id : Int) : wRing (waitR r k s id) ≤ wRing r + 1 := by
  have h1 : wRing (readR r k s) ≤ wRing r := by
    refine Nat.le_trans (trim_w _) ?_
    have := (⟨by rw [List.getElem?_set_self (List.getElem?_eq_some_iff.1 hs).1], by simp, rfl⟩ : Turn r.subs _ _ (readS r s)).w hs (readS_fit hI hs).2.1
    simp only [readK, wRing, this]; omega
  unfold waitR
  split
  · have : ∀ f : List Int, wIntS f = f.length := fun f => by rw [wIntS, sumL_zero wInt fun _ => rfl, Nat.add_zero]
    have e : (readR r k s).line = r.line := rfl
    simp only [wRing, this, List.length_append, List.length_cons, List.length_nil, e] at h1 ⊢
    omega
  · omega
theorem recv_w (r : RingV) (id : Int) : wRing (recvR r id) ≤ wRing r + 1 := by
  unfold recvR
  split
  · rename_i h
    obtain ⟨hB, hs⟩ := recv_at h
    exact wait_w (ringIs hB).read hs id
  · omega
theorem read_t {r : RingV} {s : SubV} : wTold (readT r s) ≤ wRing r := by
  unfold readT
  split
  · exact Nat.zero_le _
  · split
    · rename_i m hm
      have h2 : m ∈ r.items := List.mem_of_mem_drop (List.mem_of_getElem? (show (aheadL r s)[passN r s]? = some m from hm))
      obtain ⟨i, hi⟩ := List.getElem?_of_mem h2
      have := sumL_mem wMsg hi
      simp only [wTold, wRing, wMsgS]
      omega
    · exact Nat.zero_le _
theorem recv_t (r : RingV) (id : Int) : wTold (recvT r id) ≤ wRing r := by
  unfold recvT
  split
  · exact read_t
  · exact Nat.zero_le _
end Go.Proofs.YtlgdijjkegeccaaGreat
