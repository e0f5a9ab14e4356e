/- They wait no more than there are; items one by one. -/
import Derived.Test.YtlgdijjkegeccaaFnRk
namespace Go.Proofs.Ytlgdijjkegeccaa
open Go Go.RowKit Go.Bv
set_option linter.unusedSimpArgs false
set_option linter.unusedVariables false
set_option maxRecDepth 4000
set_option maxHeartbeats 1000000

theorem nodup_of_take {A : List Int} (h : ∀ i id, A[i]? = some id → ((A.take i).any (· == id)) = false) : A.Nodup := by
  rw [List.Nodup, List.pairwise_iff_getElem]
  intro i j hi hj hij e
  have := h j A[j] (by simp [hj])
  rw [List.any_eq_false] at this
  refine this A[i] ?_ (by simp [e])
  rw [List.mem_take_iff_getElem]
  exact ⟨i, by omega, rfl⟩
theorem len_of_nodup : ∀ {A B : List Int}, A.Nodup → (∀ x ∈ A, x ∈ B) → A.length ≤ B.length
  | [], _, _, _ => by simp
  | x :: A, B, hA, hB => by
    rw [List.nodup_cons] at hA
    have hx := hB x (by simp)
    have := len_of_nodup (A := A) (B := B.erase x) hA.2 fun y hy => (List.mem_erase_of_ne (fun e => hA.1 (by rw [← e]; exact hy))).2 (hB y (by simp [hy]))
    rw [List.length_erase_of_mem hx] at this
    have := List.length_pos_of_mem hx
    simp only [List.length_cons]
    omega
/-- There wait no more than there are. -/
theorem waitB_len {r : RingV} (h : waitB r = true) : r.line.length + r.grants.length ≤ r.subs.length := by
  rw [waitB, Bool.and_eq_true, allTo_iff] at h
  have hA : ∀ i id, (r.line ++ r.grants)[i]? = some id → 0 ≤ atI r.subs id ∧ (((r.line ++ r.grants).take i).any (· == id)) = false := by
    intro i id hi
    have hlt := (List.getElem?_eq_some_iff.1 hi).1
    have := h.1 i hlt
    unfold waitQ at this
    rw [hi] at this
    simp only [Bool.and_eq_true, decide_eq_true_eq, Bool.not_eq_true'] at this
    exact ⟨this.1.1, this.1.2⟩
  have := len_of_nodup (A := r.line ++ r.grants) (B := r.subs.map (·.id)) (nodup_of_take fun i id hi => (hA i id hi).2) fun x hx => by
    obtain ⟨i, hi⟩ := List.getElem?_of_mem hx
    obtain ⟨k, s, h1, h2, h3, h4⟩ := atI_at (hA i x hi).1
    rw [List.mem_map]
    exact ⟨s, List.mem_of_getElem? h3, by simpa using h4⟩
  simpa using this
/-- The i-th item is right. -/
def itemsQ (r : RingV) (i : Nat) : Bool := match r.items[i]? with
  | none => true
  | some m => msgB m
theorem items_all (r : RingV) : allTo (itemsQ r) r.items.length = r.items.all msgB := by
  rw [Bool.eq_iff_iff, allTo_iff, List.all_eq_true]
  constructor
  · intro h m hm
    obtain ⟨i, hi⟩ := List.getElem?_of_mem hm
    have := h i (List.getElem?_eq_some_iff.1 hi).1
    unfold itemsQ at this
    rwa [hi] at this
  · intro h i hi
    unfold itemsQ
    have : r.items[i]? = some r.items[i] := by simp [hi]
    rw [this]
    exact h _ (List.getElem_mem hi)
end Go.Proofs.Ytlgdijjkegeccaa
