/- Contracts: what is ahead of the oldest goes, of the program. -/
import Derived.Test.YtlgdijjkegeccaaFnRk
import Derived.Test.YtlgdijjkegeccaaBvM5
namespace Go.Proofs.Ytlgdijjkegeccaa
open Go Go.RowKit Go.Bv
set_option linter.unusedSimpArgs false
set_option linter.unusedVariables false
set_option maxRecDepth 4000
set_option maxHeartbeats 1000000
/-! The walks that end. -/
theorem sFnTr94 {p q : Prop} (k : q) (h : q → p := by
  first
  | exact shAR 0 (by exact i_T hT [[], [], [1], [1, 2], [1, 2, 3], [], [5], [5, 6], [5, 6, 7], [5, 6, 7, 8], [], [10], [10, 11], [10, 11, 12], [], [14], [14, 15], [14, 15, 16], [10, 11, 12, 13, 14, 15, 16, 17], [5, 6, 7, 8, 9, 10, 11, 12, 13, 14, 15, 16, 17, 18], [1, 2, 3, 4, 5, 6, 7, 8, 9, 10, 11, 12, 13, 14, 15, 16, 17, 18, 19], [0, 1, 2, 3, 4, 5, 6, 7, 8, 9, 10, 11, 12, 13, 14, 15, 16, 17, 18, 19, 20], [0, 1, 2, 3, 4, 5, 6, 7, 8, 9, 10, 11, 12, 13, 14, 15, 16, 17, 18, 19, 20, 21], [0, 1, 2, 3, 4, 5, 6, 7, 8, 9, 10, 11, 12, 13, 14, 15, 16, 17, 18, 19, 20, 21, 22]] 21 [2, 3, 4, 5, 6, 7, 8, 9, 10, 11, 12, 13, 14, 15, 16, 17, 18, 19, 20, 21, 22])
  | exact i1
  | fail) : p := h k
theorem wFnTr94_0 {p : Prop} (h : p := by
  have E0 := @encRing.eq_1
  refine snd_B hT Try.func94 Try.results94 Try.ntmps94 ?_
  repeat' (first | refine sFnTr94 ?_ | (refine two ?_ ?_; all_goals (intro h; try simp only [Bool.not_eq_true', Bool.not_eq_false', reduceCtorEq] at h)) | fail)
  all_goals (simp only [go_sem, *]; first | done | rfl)) : p := h

/-- How many go. -/
def trimN (r : RingV) : Nat := ((r.items.length : Int) - (r.sent - oldestI r)).toNat
def trimR (r : RingV) : RingV := { r with items := r.items.drop (trimN r) }
-- LENTB b_impl_Ring_trim
theorem trim0_impl (r : RingV) {u : AV} (hu : u = .box (encRing true r)) (hr : okRing r) (h1 : -9223372036854775808 ≤ r.sent - r.cap) (h2 : r.sent - r.cap ≤ 9223372036854775807) (h3 : 0 ≤ r.sent - oldestI r) (h4 : r.sent - oldestI r ≤ r.items.length) (h5 : r.items.length ≤ 4194304) :
    SoundB P 94 [u] 0 (.tup []) (.box (encRing true (trimR r))) := by
  subst hu
  obtain ⟨k, hk⟩ : ∃ k : Nat, (r.items.length : Int) - (r.sent - oldestI r) = (k : Nat) := ⟨((r.items.length : Int) - (r.sent - oldestI r)).toNat, by omega⟩
  have hn : trimN r = k := by rw [trimN, hk]; simp
  have hkl : k ≤ r.items.length := by omega
  have hkl2 : (k : Int) ≤ (r.items.length : Int) := by omega
  have hk0 : (0 : Int) ≤ (k : Int) := by omega
  have w1 : IntKind.i64.wrap (r.sent - oldestI r) = r.sent - oldestI r := by rw [wrap_small] <;> omega
  have w2 : IntKind.i64.wrap ((r.items.length : Int) - (r.sent - oldestI r)) = (k : Int) := by rw [hk, wrap_small] <;> omega
  have hd : List.drop k (r.items.map (encMsg true)) = (r.items.drop k).map (encMsg true) := (List.map_drop ..).symm
  have ht : List.take (r.items.length - k) ((r.items.drop k).map (encMsg true)) = (r.items.drop k).map (encMsg true) := List.take_of_length_le (by simp)
  have hv : trimR r = { r with items := r.items.drop k } := by rw [trimR, hn]
  rw [hv]
  clear hv hn hk
  exact wFnTr94_0
theorem b_impl_Ring_trim (cap sent : Int) (items : List MsgV) (next : Int) (subs : List SubV) (line grants : List Int) (closed : Bool) {u : AV} (hu : u = .box (.agg [.int .i64 cap, .int .i64 sent, .lst true 3 (items.map (encMsg true)), .int .i64 next, .lst true 7 (subs.map (encSub true)), .lst true 1 (line.map encInt), .lst true 1 (grants.map encInt), .bool closed])) (hr : okRing ⟨cap, sent, items, next, subs, line, grants, closed⟩)
    (h1 : -9223372036854775808 ≤ sent - cap) (h2 : sent - cap ≤ 9223372036854775807) (h3 : 0 ≤ sent - oldestI ⟨cap, sent, items, next, subs, line, grants, closed⟩) (h4 : sent - oldestI ⟨cap, sent, items, next, subs, line, grants, closed⟩ ≤ items.length) (h5 : items.length ≤ 4194304) :
    SoundB P 94 [u] 0 (.tup []) (.box (encRing true (trimR ⟨cap, sent, items, next, subs, line, grants, closed⟩))) :=
  trim0_impl ⟨cap, sent, items, next, subs, line, grants, closed⟩ hu hr h1 h2 h3 h4 h5
noncomputable abbrev ib_impl_Ring_trim := ConB.mk (P := P) (f := 94) Try.call94 @b_impl_Ring_trim
attribute [instance] ib_impl_Ring_trim
end Go.Proofs.Ytlgdijjkegeccaa
