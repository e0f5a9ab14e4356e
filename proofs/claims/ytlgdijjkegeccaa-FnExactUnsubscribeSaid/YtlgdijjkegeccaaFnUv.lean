/- Contracts: Unsubscribe, of the specification; the law. -/
import Derived.Test.YtlgdijjkegeccaaFnUn
import Derived.Test.YtlgdijjkegeccaaKU
import Derived.Test.YtlgdijjkegeccaaKR
import Derived.Test.YtlgdijjkegeccaaBvM5
import Derived.Test.YtlgdijjkegeccaaBvPt
namespace Go.Proofs.Ytlgdijjkegeccaa
open Go Go.RowKit Go.Bv
set_option linter.unusedSimpArgs false
set_option linter.unusedVariables false
set_option maxRecDepth 4000
set_option maxHeartbeats 8000000
/-! The walks that end. -/
theorem sFnUv36 {p q : Prop} (k : q) (h : q → p := by
  first
  | exact shAR 7 (by exact i_W hT [[], [], [1], [], [1, 2, 3], [0, 1, 2, 3, 4], [], [6], [], [8], [6, 7, 8, 9], [0, 1, 2, 3, 4, 5, 6, 7, 8, 9, 10], [0, 1, 2, 3, 4, 5, 6, 7, 8, 9, 10, 11], [0, 1, 2, 3, 4, 5, 6, 7, 8, 9, 10, 11, 12]] [[(22, _)], [(23, _)], [(24, _)], [(25, _)], [(26, _)], [(27, _), (22, _), (6, .box (.agg [.int .i64 r.cap, .int .i64 r.sent, .lst true 3 (r.items.map (encMsg true)), .int .i64 r.next, .lst true 7 (blanks 0 k (r.subs.map (encSub true))), .lst true 1 (r.line.map encInt), .lst true 1 (r.grants.map encInt), .bool r.closed]))], [(28, _)], [(29, _)], [(30, _)], [(31, _)], [(32, _)], [(33, _), (27, _), (6, _)], [(34, _)], [(6, _), (33, _), (24, _), (26, _), (29, _), (32, _)]] (by decide +kernel) (by refine st_o [5, 11, 12, 13] ?_; refine st_o [2, 4, 5, 11, 12, 13] ?_; refine st_o [4, 5, 11, 12, 13] ?_; refine st_o [4, 5, 11, 12, 13] ?_; refine st_o [5, 11, 12, 13] ?_; refine st_oL [11, 12, 13] ?_ ?_; rotate_left; refine st_oC 5 [7, 10, 11, 12, 13] ?_; refine st_oC 5 [10, 11, 12, 13] ?_; refine st_o [9, 10, 11, 12, 13] ?_; refine st_o [10, 11, 12, 13] ?_; refine st_oC 5 [11, 12, 13] ?_; rotate_left; intro D hk hd hf; (try simp only [go_sem, allT, Option.getD_some] at hd); (try simp only [go_sem, allF] at hf); simp only [fillW, putIfs, putIf, fillU, putU, updAt, updV, hset, cond_true, also, Nat.reduceBEq, cond_false, Nat.reduceAdd, hd, hk, hf]; exact as_pt hT; refine st_oP [12, 13] ?_; refine st_o [13] ?_; refine st_o [] ?_; exact steps_nil))
  | exact i1
  | fail) : p := h k
theorem wFnUv36_0 {p : Prop} (h : p := by
  have E0 := @encRing.eq_1
  have E1 := @zeroRing.eq_1
  refine snd_b hT Try.func36 Try.results36 Try.ntmps36 ?_
  repeat' (first | refine sFnUv36 ?_ | (refine two ?_ ?_; all_goals (intro h; try simp only [Bool.not_eq_true', Bool.not_eq_false', reduceCtorEq] at h)) | fail)
  all_goals (simp only [go_sem, *]; first | done | rfl)) : p := h
-- PARTS spec.Unsubscribe
-- REGVAL spec.Unsubscribe 7 5.6 .box (.agg [.int .i64 r.cap, .int .i64 r.sent, .lst true 3 (r.items.map (encMsg true)), .int .i64 r.next, .lst true 7 (blanks 0 k (r.subs.map (encSub true))), .lst true 1 (r.line.map encInt), .lst true 1 (r.grants.map encInt), .bool r.closed])

theorem blanks_len {f : List SubV} {lo n : Nat} (h : lo + n ≤ f.length) : (blanks lo n (f.map (encSub true))).length = f.length := by
  simp [blanks]; omega
theorem blanks_all {f : List SubV} {lo n : Nat} : ((blanks lo n (f.map (encSub true))).all fun y => alen y == 7) = true := by
  have h7 : ∀ y ∈ f.map (encSub true), alen y = 7 := fun y hy => by
    obtain ⟨s, _, rfl⟩ := List.mem_map.1 hy
    rfl
  rw [List.all_eq_true]
  intro y hy
  simp only [blanks, List.mem_append, List.mem_map] at hy
  rcases hy with hy | ⟨z, hz, rfl⟩ | hy
  · simpa using h7 y (List.mem_of_mem_take hy)
  · have := h7 z (List.mem_of_mem_drop (List.mem_of_mem_take hz))
    simp only [blankA, alen, this]; rfl
  · simpa using h7 y (List.mem_of_mem_drop (List.mem_of_mem_drop hy))
theorem blanks_rest {f : List SubV} {k : Nat} (h : k < f.length) : List.take (f.length - (k + 1)) (List.drop (k + 1) (blanks 0 k (f.map (encSub true)))) = (f.drop (k + 1)).map (encSub true) := by
  have e : blanks 0 k (f.map (encSub true)) = ((f.map (encSub true)).take k).map blankA ++ (f.map (encSub true)).drop k := by simp [blanks]
  have hl : (((f.map (encSub true)).take k).map blankA).length = k := by simp; omega
  rw [e, List.drop_append, hl, List.drop_eq_nil_of_le (by omega), List.nil_append, List.drop_drop, show k + (k + 1 - k) = k + 1 by omega, List.map_drop, List.take_of_length_le (by simp)]
theorem c_spec_Unsubscribe (r : RingV) (id : Int) {u : AV} (hu : u = encRing false r) (hr : okRing r) (hw : wRing r ≤ 4194304) (l1 : r.line.length ≤ 1048576) (l2 : r.grants.length ≤ 1048576) (l3 : r.items.length ≤ 1048576) : Sound P 36 [u, .int .i64 id] (.tup [encRing true (unsubR r id), .int .i64 (unsubC r id)]) := by
  subst hu
  have m1 : r.line.length < 4611686018427387904 := by omega
  have m2 : r.grants.length < 4611686018427387904 := by omega
  have m3 : r.items.length ≤ 4194304 := by omega
  have m4 : r.line.length ≤ 4194304 := by omega
  have m5 : r.grants.length ≤ 4194304 := by omega
  have hl : r.subs.length < 4611686018427387904 := hr.2.1.1
  cases hB : ringB r
  · have hc : unsubC r id = 1 := by simp [unsubC, hB]
    have hv : unsubR r id = r := by simp [unsubR, hc]
    rw [hv, hc]
    clear hc hv
    exact wFnUv36_0
  by_cases hneg : atI r.subs id < 0
  · have hc : unsubC r id = 3 := by simp [unsubC, hB, hneg]
    have hv : unsubR r id = r := by simp [unsubR, hc]
    rw [hv, hc]
    clear hc hv
    have hg : decide (atI r.subs id < 0) = true := decide_eq_true hneg
    exact wFnUv36_0
  obtain ⟨k, s, hk, hkl, hks, _⟩ := atI_at (f := r.subs) (id := id) (by omega)
  have hg : decide ((k : Int) < 0) = false := decide_eq_false (by omega)
  have hc : unsubC r id = 0 := by simp [unsubC, hB, hneg]
  have hI := ringIs hB
  have n1 := less1_nodup (n := id) hI.line
  have n2 := less1_nodup (n := id) hI.grants
  have hv : unsubR r id = trimR (unsubR0 r id k) := by simp only [unsubR, hc, if_true, hk, Int.toNat_natCast]
  obtain ⟨ho, f1, f2⟩ := unsub_fit hr hI id k
  have hb1 : -9223372036854775808 ≤ r.sent - r.cap := by have := hI.cap2; have := hI.sent1; omega
  have hb2 : r.sent - r.cap ≤ 9223372036854775807 := by have := hI.cap1; have := hI.sent2; omega
  have w1 : IntKind.i64.wrap ((k : Int) + 1) = ((k + 1 : Nat) : Int) := by rw [wrap_small] <;> omega
  have hkl12 : r.subs.length ≤ 12 := hI.subs
  have a1 : (0 : Int) ≤ (k : Int) := by omega
  have a2 : (k : Int) ≤ (r.subs.length : Int) := by omega
  have a3 : (0 : Int) ≤ ((k + 1 : Nat) : Int) := by omega
  have a4 : ((k + 1 : Nat) : Int) ≤ (r.subs.length : Int) := by omega
  have hbl := blanks_len (f := r.subs) (lo := 0) (n := k) (by omega)
  have hba := blanks_all (f := r.subs) (lo := 0) (n := k)
  have hbr := blanks_rest hkl
  have e1 : List.map (encSub true) (List.take k r.subs) ++ List.map (encSub true) (List.drop (k + 1) r.subs) = (lessS r.subs k).map (encSub true) := by rw [lessS, List.map_append]
  have e2 : List.take k (List.map (encSub true) r.subs) = List.map (encSub true) (List.take k r.subs) := (List.map_take ..).symm
  have d1 : (List.take k r.subs).length ≤ 12 := by rw [List.length_take]; omega
  have d2 : (List.drop (k + 1) r.subs).length ≤ 12 := by rw [List.length_drop]; omega
  rw [hv, hc]
  unfold unsubR0 at *
  rw [← n1, ← n2] at *
  clear hc hv hneg hI hks n1 n2
  exact wFnUv36_0
noncomputable abbrev ic_spec_Unsubscribe := Con.mk (P := P) (f := 36) Try.call36 @c_spec_Unsubscribe
attribute [instance] ic_spec_Unsubscribe
end Go.Proofs.Ytlgdijjkegeccaa
