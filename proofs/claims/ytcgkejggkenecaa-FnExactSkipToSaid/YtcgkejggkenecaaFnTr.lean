/- Contracts: what is ahead of the oldest goes, of the program. -/
import Derived.Test.YtcgkejggkenecaaFnRk
import Derived.Test.YtcgkejggkenecaaBvAt
namespace Go.Proofs.Ytcgkejggkenecaa
open Go Go.RowKit Go.Bv
set_option linter.unusedSimpArgs false
set_option linter.unusedVariables false
set_option maxRecDepth 4000
set_option maxHeartbeats 1000000

/-- How many go. -/
def trimN (r : RingV) : Nat := ((r.items.length : Int) - (r.sent - oldestI r)).toNat
def trimR (r : RingV) : RingV := { r with items := r.items.drop (trimN r) }
-- LENTB b_impl_Ring_trim
theorem trim0_impl (r : RingV) {u : AV} (hu : u = .box (encRing true r)) (hr : okRing r) (h1 : -9223372036854775808 ≤ r.sent - r.cap) (h2 : r.sent - r.cap ≤ 9223372036854775807) (h3 : 0 ≤ r.sent - oldestI r) (h4 : r.sent - oldestI r ≤ r.items.length) (h5 : r.items.length ≤ 4194304) :
    SoundB P 100 [u] 0 (.tup []) (.box (encRing true (trimR r))) := by
  subst hu
  obtain ⟨k, hk⟩ : ∃ k : Nat, (r.items.length : Int) - (r.sent - oldestI r) = (k : Nat) := ⟨((r.items.length : Int) - (r.sent - oldestI r)).toNat, by omega⟩
  have hn : trimN r = k := by rw [trimN, hk]; simp
  have hkl : k ≤ r.items.length := by omega
  have hkl2 : (k : Int) ≤ (r.items.length : Int) := by omega
  have hk0 : (0 : Int) ≤ (k : Int) := by omega
  have w1 : IntKind.i64.wrap (r.sent - oldestI r) = r.sent - oldestI r := by rw [wrap_small] <;> omega
  have w2 : IntKind.i64.wrap ((r.items.length : Int) - (r.sent - oldestI r)) = (k : Int) := by rw [hk, wrap_small] <;> omega
  have hd : List.drop k (r.items.map (encMsg true)) = (r.items.drop k).map (encMsg true) := (List.map_drop ..).symm
  have ht : List.take (r.items.length - k) ((r.items.drop k).map (encMsg true)) = (r.items.drop k).map (encMsg true) := List.take_of_length_le (by simp)
  have hv : trimR r = { r with items := r.items.drop k } := by rw [trimR, hn]
  rw [hv]
  clear hv hn hk
  refine sound_bodyB hT Go.Proofs.Try.func100 rfl (by decide +kernel) (by simp) ?hpv ?_
  case hpv => simp only [go_sem, *]
  rw [Go.Proofs.Try.results100, Go.Proofs.Try.ntmps100]
  simp only [frame, List.length_cons, List.length_nil, List.replicate, List.cons_append, List.nil_append, Nat.reduceAdd, Nat.reduceSub]
  repeat' (first
  | with_reducible first | refine aw_ret ?_ | refine thenA_n ?_ | refine thenA_r ?_ | refine thenA_x ?_ | refine blockA_n ?_ | refine blockA_r ?_ | refine blockA_e ?_ | refine blockA_x (by decide) ?_ | refine ends_r ?_ | refine ends_n ?_ | refine ends_rM ?_ | refine ends_nM ?_ | refine aw_reg ?_
  | (with_reducible apply aw_anyT hT (id := 0) [[], [], [1], [1, 2], [1, 2, 3], [], [5], [5, 6], [5, 6, 7], [5, 6, 7, 8], [], [10], [10, 11], [10, 11, 12], [], [14], [14, 15], [14, 15, 16], [10, 11, 12, 13, 14, 15, 16, 17], [5, 6, 7, 8, 9, 10, 11, 12, 13, 14, 15, 16, 17, 18], [1, 2, 3, 4, 5, 6, 7, 8, 9, 10, 11, 12, 13, 14, 15, 16, 17, 18, 19], [0, 1, 2, 3, 4, 5, 6, 7, 8, 9, 10, 11, 12, 13, 14, 15, 16, 17, 18, 19, 20], [0, 1, 2, 3, 4, 5, 6, 7, 8, 9, 10, 11, 12, 13, 14, 15, 16, 17, 18, 19, 20, 21], [0, 1, 2, 3, 4, 5, 6, 7, 8, 9, 10, 11, 12, 13, 14, 15, 16, 17, 18, 19, 20, 21, 22]] 21 [2, 3, 4, 5, 6, 7, 8, 9, 10, 11, 12, 13, 14, 15, 16, 17, 18, 19, 20, 21, 22]
     · simp only [List.take_succ_cons, List.take_zero]; with_reducible rfl
     · simp only [List.drop_succ_cons, List.drop_zero]; with_reducible rfl
     · rfl
     · decide +kernel
     · decide +kernel
     · decide +kernel
     · simp only [go_sem, *])
  | with_reducible refine al_nil ?_
  | with_reducible refine ad_nil ?_
  | (with_reducible apply ad_q hT
     · first | exact gchk_none rfl | simp only [go_sem, *]
     · simp only [go_sem, encRing, *]; first | done | with_reducible rfl
     · simp only [go_sem, *]
     · simp only [go_sem]; with_reducible rfl)
  | (with_reducible apply ad_snap (f := 76)
     · first | exact gchk_none rfl | simp only [go_sem, *]
     · rfl
     · exact Go.Proofs.Try.call76
     · simp only [go_sem, encRing, *]; with_reducible rfl
     · simp only [go_sem, encRing, *]; with_reducible rfl
     · first | assumption | ((with_reducible apply c_impl_oldest) <;> first | assumption | rfl)
     · simp only [go_sem, *]
     · simp only [go_sem, *]
     · simp only [go_sem]; with_reducible rfl)
  | (with_reducible apply al_s hT true
     · first | exact gchk_none rfl | simp only [go_sem, *]
     · simp only [go_sem, encRing, *]; first | done | with_reducible rfl)
  )
  all_goals ((simp only [go_sem, *]); first | done | rfl)
theorem b_impl_Ring_trim (cap sent : Int) (items : List MsgV) (next : Int) (subs : List SubV) (line grants : List Int) (closed : Bool) {u : AV} (hu : u = .box (.agg [.int .i64 cap, .int .i64 sent, .lst true 3 (items.map (encMsg true)), .int .i64 next, .lst true 7 (subs.map (encSub true)), .lst true 1 (line.map encInt), .lst true 1 (grants.map encInt), .bool closed])) (hr : okRing ⟨cap, sent, items, next, subs, line, grants, closed⟩)
    (h1 : -9223372036854775808 ≤ sent - cap) (h2 : sent - cap ≤ 9223372036854775807) (h3 : 0 ≤ sent - oldestI ⟨cap, sent, items, next, subs, line, grants, closed⟩) (h4 : sent - oldestI ⟨cap, sent, items, next, subs, line, grants, closed⟩ ≤ items.length) (h5 : items.length ≤ 4194304) :
    SoundB P 100 [u] 0 (.tup []) (.box (encRing true (trimR ⟨cap, sent, items, next, subs, line, grants, closed⟩))) :=
  trim0_impl ⟨cap, sent, items, next, subs, line, grants, closed⟩ hu hr h1 h2 h3 h4 h5
end Go.Proofs.Ytcgkejggkenecaa
