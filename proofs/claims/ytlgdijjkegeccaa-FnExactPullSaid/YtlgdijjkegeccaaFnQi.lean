/- Contracts: Pull, of the program. -/
import Derived.Test.YtlgdijjkegeccaaFnQa
import Derived.Test.YtlgdijjkegeccaaFnRc
import Derived.Test.YtlgdijjkegeccaaBvM5
namespace Go.Proofs.Ytlgdijjkegeccaa
open Go Go.RowKit Go.Bv
set_option linter.unusedSimpArgs false
set_option linter.unusedVariables false
set_option maxRecDepth 4000
set_option maxHeartbeats 8000000
/-! The walks that end. -/
theorem wFnQi25_0 {p : Prop} (h : p := by
  have E0 := @encRing.eq_1
  have E1 := @zeroRing.eq_1
  repeat' (first | refine oneF ?_ | (refine two ?_ ?_; all_goals (intro h; try simp only [Bool.not_eq_true', Bool.not_eq_false', reduceCtorEq] at h)) | fail)
  all_goals (simp only [go_sem, *]; first | done | rfl)) : p := h
theorem wFnQi25_1 {p : Prop} (h : p := by
  have E0 := @encRing.eq_1
  have E1 := @encTold.eq_1
  have E2 := @encMsg.eq_1
  have E3 := @zeroTold.eq_1
  have E4 := @zeroRing.eq_1
  repeat' (first | refine oneF ?_ | (refine two ?_ ?_; all_goals (intro h; try simp only [Bool.not_eq_true', Bool.not_eq_false', reduceCtorEq] at h)) | fail)
  all_goals (simp only [go_sem, *]; first | done | rfl)) : p := h
-- VIEWS

/-- What pulling comes to. -/
def pullB (r : RingV) (id most : Int) : Bool := ringB r && (decide (most ≥ 0) && decide (most ≤ 50)) && !decide (atI r.subs id < 0) && !busyB r id
def pullX (r : RingV) (id most : Int) : RingV × List ToldV × Int := if pullB r id most then pullG most.toNat r (atI r.subs id).toNat else (r, [], if ringB r && (decide (most ≥ 0) && decide (most ≤ 50)) then (if atI r.subs id < 0 then 3 else 5) else 1)
theorem pull_not {r : RingV} {id most c : Int} (h : pullB r id most = false) (hc : (if ringB r && (decide (most ≥ 0) && decide (most ≤ 50)) then (if atI r.subs id < 0 then 3 else 5) else 1) = c) : pullX r id most = (r, [], c) := by
  rw [pullX, h, hc]; rfl
theorem pull_yes {r : RingV} {id most : Int} {k : Nat} (h : pullB r id most = true) (hk : atI r.subs id = k) : pullX r id most = pullG most.toNat r k := by
  rw [pullX, h, hk, Int.toNat_natCast]; rfl
theorem tup3 {α β γ : Type} {a x : α} {b y : β} {c z : γ} (h : (a, b, c) = (x, y, z)) : a = x ∧ b = y ∧ c = z := by
  simp only [Prod.mk.injEq] at h; exact h
/-- m readings are left, L is told; the whole comes to X. -/
structure PullAt (id : Int) (k : Nat) (X : RingV × List ToldV × Int) (most : Int) (m : Nat) (q : RingV) (s : SubV) (L : List ToldV) : Prop where
  ok : okRing q
  is : ReadIs q
  at' : atI q.subs id = k
  got : q.subs[k]? = some s
  left : (L.length : Int) + m = most
  eq : X = ((pullG m q k).1, L ++ (pullG m q k).2.1, (pullG m q k).2.2)
theorem PullAt.next {id : Int} {k : Nat} {X : RingV × List ToldV × Int} {most : Int} {m : Nat} {q : RingV} {s : SubV} {L : List ToldV} (h : PullAt id k X most (m + 1) q s L) (hc : readC q s = 0) : PullAt id k X most m (readR q k s) (readS q s) (L ++ [readT q s]) := by
  have hr := reads h.ok h.is h.at' h.got
  refine ⟨hr.ok, hr.is, hr.at', hr.got, by have := h.left; simp only [List.length_append, List.length_cons, List.length_nil]; omega, ?_⟩
  rw [h.eq, pull_done h.got hc, List.append_assoc]; rfl
theorem PullAt.stop {id : Int} {k : Nat} {X : RingV × List ToldV × Int} {most : Int} {m : Nat} {q : RingV} {s : SubV} {L : List ToldV} (h : PullAt id k X most (m + 1) q s L) (hc : readC q s ≠ 0) : X = (readR q k s, L, readC q s) := by
  rw [h.eq, pull_stop h.got hc, List.append_nil]
theorem PullAt.done {id : Int} {k : Nat} {X : RingV × List ToldV × Int} {most : Int} {q : RingV} {s : SubV} {L : List ToldV} (h : PullAt id k X most 0 q s L) : X = (q, L, 0) := by
  rw [h.eq, pullG, List.append_nil]
theorem c_impl_Pull (r : RingV) (id most : Int) {u : AV} (hu : u = encRing false r) (hr : okRing r) (hw : wRing r ≤ 4194304) (l1 : r.line.length ≤ 1048576) (l2 : r.grants.length ≤ 1048576) : Sound P 25 [u, .int .i64 id, .int .i64 most] (.tup [encRing true (pullX r id most).1, .lst true 6 ((pullX r id most).2.1.map (encTold true)), .int .i64 (pullX r id most).2.2]) := by
  subst hu
  have m1 : r.line.length < 4611686018427387904 := by omega
  have m2 : r.grants.length < 4611686018427387904 := by omega
  have l4 : r.line.length ≤ 4194304 := by omega
  have hl : r.subs.length < 4611686018427387904 := hr.2.1.1
  obtain ⟨⟨X1, X2, X3⟩, hX⟩ : ∃ X, pullX r id most = X := ⟨_, rfl⟩
  rw [hX]
  dsimp only
  cases hB : ringB r
  have hK : (X1, X2, X3) = (r, [], 1) := by rw [← hX]; exact pull_not (by simp [pullB, hB]) (by simp [hB])
  obtain ⟨e1, e2, e3⟩ := tup3 hK
  rw [e1, e2, e3]
  clear e1 e2 e3 hK hX
  rotate_left
  cases hW : (decide (most ≥ 0) && decide (most ≤ 50))
  have hK : (X1, X2, X3) = (r, [], 1) := by rw [← hX]; exact pull_not (by simp only [pullB, hB, hW, Bool.and_false, Bool.false_and]) (by simp only [hB, hW, Bool.and_false, Bool.false_eq_true, if_false])
  obtain ⟨e1, e2, e3⟩ := tup3 hK
  rw [e1, e2, e3]
  clear e1 e2 e3 hK hX
  rotate_left
  by_cases hneg : atI r.subs id < 0
  have hg : decide (atI r.subs id < 0) = true := decide_eq_true hneg
  have hK : (X1, X2, X3) = (r, [], 3) := by rw [← hX]; exact pull_not (by simp only [pullB, hB, hW, hg, Bool.and_true, Bool.not_true, Bool.and_false, Bool.false_and]) (by simp only [hB, hW, Bool.and_true, if_true, if_pos hneg])
  obtain ⟨e1, e2, e3⟩ := tup3 hK
  rw [e1, e2, e3]
  clear e1 e2 e3 hK hX hneg
  rotate_left
  obtain ⟨k, s, hk, hkl, hks, hid⟩ := atI_at (f := r.subs) (id := id) (by omega)
  have hg : decide ((k : Int) < 0) = false := decide_eq_false (by omega)
  rcases (by cases r.line.any (· == id) <;> cases r.grants.any (· == id) <;> simp : (r.line.any (· == id) = false ∧ r.grants.any (· == id) = false) ∨ r.line.any (· == id) = true ∨ (r.line.any (· == id) = false ∧ r.grants.any (· == id) = true)) with hL | hL | hL
  rotate_left
  have hK : (X1, X2, X3) = (r, [], 5) := by rw [← hX]; exact pull_not (by simp only [pullB, busyB, hL, Bool.true_or, Bool.not_true, Bool.and_false]) (by simp only [hB, hW, Bool.and_true, if_true, if_neg hneg])
  obtain ⟨e1, e2, e3⟩ := tup3 hK
  rw [e1, e2, e3]
  clear e1 e2 e3 hK hX hneg
  rotate_left
  obtain ⟨hL, hG⟩ := hL
  have hK : (X1, X2, X3) = (r, [], 5) := by rw [← hX]; exact pull_not (by simp only [pullB, busyB, hG, Bool.or_true, Bool.not_true, Bool.and_false]) (by simp only [hB, hW, Bool.and_true, if_true, if_neg hneg])
  obtain ⟨e1, e2, e3⟩ := tup3 hK
  rw [e1, e2, e3]
  clear e1 e2 e3 hK hX hneg
  rotate_left
  rotate_left
  rotate_left
  rotate_left
  all_goals try (
    refine snd_b hT Try.func25 Try.results25 Try.ntmps25 ?_
    (all_goals (have E0 := @encRing.eq_1))
    (all_goals (have E1 := @zeroRing.eq_1))
    repeat' (first | refine oneF ?_ | (refine two ?_ ?_; all_goals (intro h; try simp only [Bool.not_eq_true', Bool.not_eq_false', reduceCtorEq] at h)) | fail)
    all_goals (try clear E0 E1)
    all_goals ((simp only [go_sem, *]); first | done | rfl))
  obtain ⟨hL, hG⟩ := hL
  have hI := ringIs hB
  have hK : (X1, X2, X3) = pullG most.toNat r k := by rw [← hX]; exact pull_yes (by simp only [pullB, busyB, hB, hW, hL, hG, decide_eq_false hneg, Bool.and_true, Bool.or_false, Bool.not_false]) hk
  have hst : PullAt id k (X1, X2, X3) most most.toNat r s [] := ⟨hr, hI.read, hk, hks, by simp only [Bool.and_eq_true, decide_eq_true_eq] at hW; simp; omega, by rw [hK]; simp⟩
  have hmo : 0 ≤ most ∧ most ≤ 50 := by simp only [Bool.and_eq_true, decide_eq_true_eq] at hW; omega
  clear hX hK hneg hI hid
  clear hkl
  refine snd_b hT Try.func25 Try.results25 Try.ntmps25 ?_
  (all_goals (have E0 := @encRing.eq_1))
  (all_goals (have E1 := @zeroRing.eq_1))
  repeat' (first | refine oneF ?_ | (refine two ?_ ?_; all_goals (intro h; try simp only [Bool.not_eq_true', Bool.not_eq_false', reduceCtorEq] at h)) | fail)
  all_goals (try clear E0 E1)
  refine aw_loop [4, 5, 11, 12, 13, 14, 15, 16, 17, 18, 19, 20, 21, 22, 23, 24, 25, 26, 27, 28, 29, 30, 31, 32, 33, 34, 35, 36, 37, 38, 39, 40, 41, 42, 43, 44, 45, 46, 47, 48, 49, 50, 51, 52, 53, 54, 55, 56, 57, 58, 59, 60, 61, 62, 63] (fun n S => ∃ (q : RingV) (s : SubV) (L : List ToldV), PullAt id k (X1, X2, X3) most n q s L ∧ S = [encRing false r, .int .i64 id, .int .i64 most, .box (encRing false r), .undef, .undef, .box zeroRing, .lst true 6 [], .int .i64 0, .box (.agg [.int .i64 q.cap, .int .i64 q.sent, .lst true 3 (q.items.map (encMsg true)), .int .i64 q.next, .lst true 7 (q.subs.map (encSub true)), .lst true 1 (q.line.map encInt), .lst true 1 (q.grants.map encInt), .bool q.closed]), .lst true 6 (L.map (encTold true)), .undef, .undef, .undef, .undef, .undef, .undef, .undef, .undef, .undef, .undef, .undef, .undef, .undef, .undef, .undef, .undef, .undef, .undef, .undef, .undef, .undef, .undef, .undef, .undef, .undef, .undef, .undef, .undef, .undef, .undef, .undef, .undef, .undef, .undef, .undef, .undef, .undef, .undef, .undef, .undef, .undef, .undef, .undef, .undef, .undef, .undef, .undef, .undef, .undef, .undef, .undef, .undef, .undef]) most.toNat ?_ ?_
  · refine ⟨r, s, [], hst, ?_⟩
    clear hst
    (rw [clr_eq]; rotate_left; rfl; simp only [keepB, go_sem, Nat.reduceBEq, Nat.reduceAdd, cond_true, cond_false, *]; simp only [clrG, Nat.reduceBEq, Nat.reduceAdd, cond_true, cond_false])
    first | done | rfl
  rintro n S ⟨q, s, L, hP, rfl⟩
  have hleft := hP.left
  have hL50 : L.length ≤ 50 := by omega
  cases n with
  | zero =>
    have hX := hP.done
    have hd : decide ((L.length : Int) < most) = false := decide_eq_false (by omega)
    obtain ⟨e1, e2, e3⟩ := tup3 hX
    rw [e1, e2, e3]
    clear e1 e2 e3 hX hP hst hleft
    exact wFnQi25_0
  | succ m =>
    have hd : decide ((L.length : Int) < most) = true := decide_eq_true (by omega)
    have hb : SoundB P 87 [.box (.agg [.int .i64 q.cap, .int .i64 q.sent, .lst true 3 (q.items.map (encMsg true)), .int .i64 q.next, .lst true 7 (q.subs.map (encSub true)), .lst true 1 (q.line.map encInt), .lst true 1 (q.grants.map encInt), .bool q.closed]), .int .i64 id] 0 (.tup [encTold false (readT q s), .int .i64 (readC q s)]) (.box (encRing true (readR q k s))) :=
      read0_impl q id k s rfl hP.ok hP.is hP.at' hP.got
    by_cases hc : readC q s = 0
    · have hN := hP.next hc
      obtain ⟨R, hR⟩ : ∃ R, readR q k s = R := ⟨_, rfl⟩
      obtain ⟨T, hT⟩ : ∃ T, readT q s = T := ⟨_, rfl⟩
      obtain ⟨s', hs'⟩ : ∃ s', readS q s = s' := ⟨_, rfl⟩
      rw [hR, hT, hc] at hb
      rw [hR, hT, hs'] at hN
      have e1 : L.map (encTold true) ++ [.agg [.int .i64 T.kind, .agg [.int .i64 T.msg.kind, .int .i64 T.msg.num, .str T.msg.text], .int .i64 T.index, .int .i64 T.n]] = (L ++ [T]).map (encTold true) := by rw [List.map_append]; rfl
      have hK := Kept.mk hN
      clear hR hT hs' hN hc hP hst hleft
      (all_goals (have E0 := @encRing.eq_1))
      (all_goals (have E1 := @encTold.eq_1))
      (all_goals (have E2 := @encMsg.eq_1))
      (all_goals (have E3 := @zeroTold.eq_1))
      (all_goals (have E4 := @zeroRing.eq_1))
      repeat' (first | refine oneF ?_ | (refine two ?_ ?_; all_goals (intro h; try simp only [Bool.not_eq_true', Bool.not_eq_false', reduceCtorEq] at h)) | fail)
      all_goals (try clear E0 E1 E2 E3 E4)
      all_goals (
        refine ⟨m, by omega, R, s', L ++ [T], hK.out, ?_⟩
        clear hK
        (rw [clr_eq]; rotate_left; rfl; simp only [keepB, go_sem, Nat.reduceBEq, Nat.reduceAdd, cond_true, cond_false, *]; simp only [clrG, Nat.reduceBEq, Nat.reduceAdd, cond_true, cond_false])
        first | done | rfl)
    · have hX := hP.stop hc
      obtain ⟨R, hR⟩ : ∃ R, readR q k s = R := ⟨_, rfl⟩
      obtain ⟨T, hT⟩ : ∃ T, readT q s = T := ⟨_, rfl⟩
      obtain ⟨c, hcc⟩ : ∃ c, readC q s = c := ⟨_, rfl⟩
      rw [hcc] at hc
      rw [hR, hT, hcc] at hb
      obtain ⟨e1', e2', e3'⟩ := tup3 hX
      rw [e1', e2', e3', hR, hcc]
      clear e1' e2' e3'
      have hcb : (c == 0) = false := by simpa using hc
      have hcb2 : (c != 0) = true := by simpa using hc
      clear hR hT hcc hX hc hP hst hleft
      exact wFnQi25_1
noncomputable abbrev ic_impl_Pull := Con.mk (P := P) (f := 25) Try.call25 @c_impl_Pull
attribute [instance] ic_impl_Pull
end Go.Proofs.Ytlgdijjkegeccaa
