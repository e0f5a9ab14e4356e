/- Contracts: Pull, of the specification. -/
import Derived.Test.YtlgdijjkegeccaaFnQi
import Derived.Test.YtlgdijjkegeccaaFnSs
import Derived.Test.YtlgdijjkegeccaaBvM5
namespace Go.Proofs.Ytlgdijjkegeccaa
open Go Go.RowKit Go.Bv
set_option linter.unusedSimpArgs false
set_option linter.unusedVariables false
set_option maxRecDepth 4000
set_option maxHeartbeats 8000000
/-! The walks that end. -/
theorem wFnQs24_0 {p : Prop} (h : p := by
  have E0 := @encRing.eq_1
  have E1 := @zeroRing.eq_1
  repeat' (first | refine oneF ?_ | (refine two ?_ ?_; all_goals (intro h; try simp only [Bool.not_eq_true', Bool.not_eq_false', reduceCtorEq] at h)) | fail)
  all_goals (simp only [go_sem, *]; first | done | rfl)) : p := h
-- VIEWS

/-- Readings go on, or one has told nothing. -/
structure PullSt (id : Int) (k : Nat) (X : RingV × List ToldV × Int) (most : Int) (n : Nat) (q : RingV) (L : List ToldV) (c : Int) : Prop where
  len : L.length ≤ 50
  or' : (∃ m s, n = m + 1 ∧ c = 0 ∧ PullAt id k X most m q s L) ∨ (n = 0 ∧ c ≠ 0 ∧ X = (q, L, c))
theorem readK_is {q : RingV} (hr : okRing q) (hI : ReadIs q) {k : Nat} {s : SubV} (hs : q.subs[k]? = some s) : okRing (readK q k s) ∧ 0 ≤ (readK q k s).sent - oldestI (readK q k s) ∧ (readK q k s).sent - oldestI (readK q k s) ≤ (readK q k s).items.length ∧ -9223372036854775808 ≤ (readK q k s).sent - (readK q k s).cap ∧ (readK q k s).sent - (readK q k s).cap ≤ 9223372036854775807 ∧ (readK q k s).items.length ≤ 4194304 := by
  obtain ⟨g, t, hF, hv, _⟩ := readK_fit hr hI hs q.line hr.2.2.1
  have h16 := hI.len
  have := hI.cap1; have := hI.cap2; have := hI.sent1; have := hI.sent2
  rw [hv]
  exact ⟨hF.ok, hF.f1, hF.f2, by simp only; omega, by simp only; omega, by simp only; omega⟩
theorem c_spec_Pull (r : RingV) (id most : Int) {u : AV} (hu : u = encRing false r) (hr : okRing r) (hw : wRing r ≤ 4194304) (l1 : r.line.length ≤ 1048576) (l2 : r.grants.length ≤ 1048576) (l3 : r.items.length ≤ 1048576) : Sound P 24 [u, .int .i64 id, .int .i64 most] (.tup [encRing true (pullX r id most).1, .lst true 6 ((pullX r id most).2.1.map (encTold true)), .int .i64 (pullX r id most).2.2]) := by
  subst hu
  have m1 : r.line.length < 4611686018427387904 := by omega
  have m2 : r.grants.length < 4611686018427387904 := by omega
  have l4 : r.line.length ≤ 4194304 := by omega
  have hl : r.subs.length < 4611686018427387904 := hr.2.1.1
  obtain ⟨⟨X1, X2, X3⟩, hX⟩ : ∃ X, pullX r id most = X := ⟨_, rfl⟩
  rw [hX]
  dsimp only
  cases hB : ringB r
  have hK : (X1, X2, X3) = (r, [], 1) := by rw [← hX]; exact pull_not (by simp [pullB, hB]) (by simp [hB])
  obtain ⟨e1, e2, e3⟩ := tup3 hK
  rw [e1, e2, e3]
  clear e1 e2 e3 hK hX
  rotate_left
  cases hW : (decide (most ≥ 0) && decide (most ≤ 50))
  have hK : (X1, X2, X3) = (r, [], 1) := by rw [← hX]; exact pull_not (by simp only [pullB, hB, hW, Bool.and_false, Bool.false_and]) (by simp only [hB, hW, Bool.and_false, Bool.false_eq_true, if_false])
  obtain ⟨e1, e2, e3⟩ := tup3 hK
  rw [e1, e2, e3]
  clear e1 e2 e3 hK hX
  rotate_left
  by_cases hneg : atI r.subs id < 0
  have hg : decide (atI r.subs id < 0) = true := decide_eq_true hneg
  have hK : (X1, X2, X3) = (r, [], 3) := by rw [← hX]; exact pull_not (by simp only [pullB, hB, hW, hg, Bool.and_true, Bool.not_true, Bool.and_false, Bool.false_and]) (by simp only [hB, hW, Bool.and_true, if_true, if_pos hneg])
  obtain ⟨e1, e2, e3⟩ := tup3 hK
  rw [e1, e2, e3]
  clear e1 e2 e3 hK hX hneg
  rotate_left
  obtain ⟨k, s, hk, hkl, hks, hid⟩ := atI_at (f := r.subs) (id := id) (by omega)
  have hg : decide ((k : Int) < 0) = false := decide_eq_false (by omega)
  rcases (by cases r.line.any (· == id) <;> cases r.grants.any (· == id) <;> simp : (r.line.any (· == id) = false ∧ r.grants.any (· == id) = false) ∨ r.line.any (· == id) = true ∨ (r.line.any (· == id) = false ∧ r.grants.any (· == id) = true)) with hL | hL | hL
  rotate_left
  have hK : (X1, X2, X3) = (r, [], 5) := by rw [← hX]; exact pull_not (by simp only [pullB, busyB, hL, Bool.true_or, Bool.not_true, Bool.and_false]) (by simp only [hB, hW, Bool.and_true, if_true, if_neg hneg])
  obtain ⟨e1, e2, e3⟩ := tup3 hK
  rw [e1, e2, e3]
  clear e1 e2 e3 hK hX hneg
  rotate_left
  obtain ⟨hL, hG⟩ := hL
  have hK : (X1, X2, X3) = (r, [], 5) := by rw [← hX]; exact pull_not (by simp only [pullB, busyB, hG, Bool.or_true, Bool.not_true, Bool.and_false]) (by simp only [hB, hW, Bool.and_true, if_true, if_neg hneg])
  obtain ⟨e1, e2, e3⟩ := tup3 hK
  rw [e1, e2, e3]
  clear e1 e2 e3 hK hX hneg
  rotate_left
  rotate_left
  rotate_left
  rotate_left
  all_goals try (
    refine snd_b hT Try.func24 Try.results24 Try.ntmps24 ?_
    (all_goals (have E0 := @encRing.eq_1))
    (all_goals (have E1 := @zeroRing.eq_1))
    repeat' (first | refine oneF ?_ | (refine two ?_ ?_; all_goals (intro h; try simp only [Bool.not_eq_true', Bool.not_eq_false', reduceCtorEq] at h)) | fail)
    all_goals (try clear E0 E1)
    all_goals ((simp only [go_sem, *]); first | done | rfl))
  obtain ⟨hL, hG⟩ := hL
  have hI := ringIs hB
  have hK : (X1, X2, X3) = pullG most.toNat r k := by rw [← hX]; exact pull_yes (by simp only [pullB, busyB, hB, hW, hL, hG, decide_eq_false hneg, Bool.and_true, Bool.or_false, Bool.not_false]) hk
  have hst : PullAt id k (X1, X2, X3) most most.toNat r s [] := ⟨hr, hI.read, hk, hks, by simp only [Bool.and_eq_true, decide_eq_true_eq] at hW; simp; omega, by rw [hK]; simp⟩
  have hmo : 0 ≤ most ∧ most ≤ 50 := by simp only [Bool.and_eq_true, decide_eq_true_eq] at hW; omega
  clear hX hK hneg hI hid
  have hst2 : PullSt id k (X1, X2, X3) most (most.toNat + 1) r [] 0 := ⟨by simp, .inl ⟨_, _, rfl, rfl, hst⟩⟩
  have hk0 : (0 : Int) ≤ (k : Int) := by omega
  clear hkl hst
  refine snd_b hT Try.func24 Try.results24 Try.ntmps24 ?_
  (all_goals (have E0 := @encRing.eq_1))
  (all_goals (have E1 := @zeroRing.eq_1))
  repeat' (first | refine oneF ?_ | (refine two ?_ ?_; all_goals (intro h; try simp only [Bool.not_eq_true', Bool.not_eq_false', reduceCtorEq] at h)) | fail)
  all_goals (try clear E0 E1)
  refine aw_loop [4, 5, 13, 14, 15, 16, 17, 18, 19, 20, 21, 22, 23, 24, 25, 26, 27, 28, 29, 30, 31, 32, 33, 34, 35, 36, 37, 38, 39, 40, 41, 42, 43, 44, 45, 46, 47, 48, 49, 50, 51, 52, 53, 54, 55, 56, 57, 58, 59, 60, 61, 62, 63, 64, 65, 66, 67, 68, 69, 70, 71, 72, 73, 74] (fun n S => ∃ (q : RingV) (L : List ToldV) (c : Int), PullSt id k (X1, X2, X3) most n q L c ∧ S = [encRing false r, .int .i64 id, .int .i64 most, .box (encRing false r), .undef, .undef, .box zeroRing, .lst true 6 [], .int .i64 0, .box (.agg [.int .i64 q.cap, .int .i64 q.sent, .lst true 3 (q.items.map (encMsg true)), .int .i64 q.next, .lst true 7 (q.subs.map (encSub true)), .lst true 1 (q.line.map encInt), .lst true 1 (q.grants.map encInt), .bool q.closed]), .int .i64 (k : Int), .lst true 6 (L.map (encTold true)), .int .i64 c, .undef, .undef, .undef, .undef, .undef, .undef, .undef, .undef, .undef, .undef, .undef, .undef, .undef, .undef, .undef, .undef, .undef, .undef, .undef, .undef, .undef, .undef, .undef, .undef, .undef, .undef, .undef, .undef, .undef, .undef, .undef, .undef, .undef, .undef, .undef, .undef, .undef, .undef, .undef, .undef, .undef, .undef, .undef, .undef, .undef, .undef, .undef, .undef, .undef, .undef, .undef, .undef, .undef, .undef, .undef, .undef, .undef, .undef, .undef, .undef, .undef, .undef]) (most.toNat + 1) ?_ ?_
  · refine ⟨r, [], 0, hst2, ?_⟩
    clear hst2
    (rw [clr_eq]; rotate_left; rfl; simp only [keepB, go_sem, Nat.reduceBEq, Nat.reduceAdd, cond_true, cond_false, *]; simp only [clrG, Nat.reduceBEq, Nat.reduceAdd, cond_true, cond_false])
    first | done | rfl
  rintro n S ⟨q, L, c, hP, rfl⟩
  have hL50 : L.length ≤ 50 := hP.len
  rcases hP.or' with ⟨m, s, rfl, rfl, hQ⟩ | ⟨rfl, hc, hX⟩
  rotate_left
  · have hcb : (c == 0) = false := by simpa using hc
    obtain ⟨e1, e2, e3⟩ := tup3 hX
    rw [e1, e2, e3]
    clear e1 e2 e3 hX hst2 hc hP
    cases hd : decide ((L.length : Int) < most)
    all_goals (
      (all_goals (have E0 := @encRing.eq_1))
      (all_goals (have E1 := @zeroRing.eq_1))
      repeat' (first | refine oneF ?_ | (refine two ?_ ?_; all_goals (intro h; try simp only [Bool.not_eq_true', Bool.not_eq_false', reduceCtorEq] at h)) | fail)
      all_goals (try clear E0 E1)
      all_goals ((simp only [go_sem, *]); first | done | rfl))
  have hleft := hQ.left
  cases m with
  | zero =>
    have hX := hQ.done
    have hd : decide ((L.length : Int) < most) = false := decide_eq_false (by omega)
    obtain ⟨e1, e2, e3⟩ := tup3 hX
    rw [e1, e2, e3]
    clear e1 e2 e3 hX hP hQ hst2 hleft
    exact wFnQs24_0
  | succ m =>
    have hd : decide ((L.length : Int) < most) = true := decide_eq_true (by omega)
    have hL49 : L.length ≤ 49 := by omega
    have hb : Sound P 84 [.agg [.int .i64 q.cap, .int .i64 q.sent, .lst true 3 (q.items.map (encMsg true)), .int .i64 q.next, .lst true 7 (q.subs.map (encSub true)), .lst true 1 (q.line.map encInt), .lst true 1 (q.grants.map encInt), .bool q.closed], .int .i64 (k : Int)] (.tup [encRing true (readK q k s), encTold false (readT q s), .int .i64 (readC q s)]) :=
      read0_spec q k s rfl hQ.ok hQ.is hQ.got
    obtain ⟨a1, a2, a3, a4, a5, a6⟩ := readK_is hQ.ok hQ.is hQ.got
    have hb2 := trim0_spec (readK q k s) rfl a1 a4 a5 a2 a3 a6
    have hRR : trimR (readK q k s) = readR q k s := rfl
    rw [hRR] at hb2
    have hN : readC q s = 0 → PullSt id k (X1, X2, X3) most (m + 1) (readR q k s) (L ++ [readT q s]) 0 := fun hc => ⟨by simp; omega, .inl ⟨m, _, rfl, rfl, hQ.next hc⟩⟩
    have hZ : readC q s ≠ 0 → PullSt id k (X1, X2, X3) most 0 (readR q k s) L (readC q s) := fun hc => ⟨hL50, .inr ⟨rfl, hc, hQ.stop hc⟩⟩
    obtain ⟨K, hKK⟩ : ∃ K, readK q k s = K := ⟨_, rfl⟩
    obtain ⟨R, hR⟩ : ∃ R, readR q k s = R := ⟨_, rfl⟩
    obtain ⟨T, hT⟩ : ∃ T, readT q s = T := ⟨_, rfl⟩
    obtain ⟨c, hcc⟩ : ∃ c, readC q s = c := ⟨_, rfl⟩
    rw [hKK, hT, hcc] at hb
    rw [hKK, hR] at hb2
    rw [hcc, hR, hT] at hN
    rw [hcc, hR] at hZ
    have hb3 : Sound P 85 [.agg [.int .i64 K.cap, .int .i64 K.sent, .lst true 3 (K.items.map (encMsg true)), .int .i64 K.next, .lst true 7 (K.subs.map (encSub true)), .lst true 1 (K.line.map encInt), .lst true 1 (K.grants.map encInt), .bool K.closed]] (encRing true R) := hb2
    have e1 : L.map (encTold true) ++ [.agg [.int .i64 T.kind, .agg [.int .i64 T.msg.kind, .int .i64 T.msg.num, .str T.msg.text], .int .i64 T.index, .int .i64 T.n]] = (L ++ [T]).map (encTold true) := by rw [List.map_append]; rfl
    by_cases hc : c = 0
    · have hK := Kept.mk (hN hc)
      subst hc
      clear hKK hR hT hcc hN hZ hP hQ hst2 hleft hb2 hRR a1 a2 a3 a4 a5 a6
      (all_goals (have E0 := @encRing.eq_1))
      (all_goals (have E1 := @encTold.eq_1))
      (all_goals (have E2 := @encMsg.eq_1))
      (all_goals (have E3 := @zeroTold.eq_1))
      (all_goals (have E4 := @zeroRing.eq_1))
      repeat' (first | refine oneF ?_ | (refine two ?_ ?_; all_goals (intro h; try simp only [Bool.not_eq_true', Bool.not_eq_false', reduceCtorEq] at h)) | fail)
      all_goals (try clear E0 E1 E2 E3 E4)
      all_goals (
        refine ⟨m + 1, by omega, R, L ++ [T], 0, hK.out, ?_⟩
        clear hK
        (rw [clr_eq]; rotate_left; rfl; simp only [keepB, go_sem, Nat.reduceBEq, Nat.reduceAdd, cond_true, cond_false, *]; simp only [clrG, Nat.reduceBEq, Nat.reduceAdd, cond_true, cond_false])
        first | done | rfl)
    · have hK := Kept.mk (hZ hc)
      have hcb : (c == 0) = false := by simpa using hc
      clear hKK hR hT hcc hN hZ hP hQ hst2 hleft hb2 hRR a1 a2 a3 a4 a5 a6 hc e1
      (all_goals (have E0 := @encRing.eq_1))
      (all_goals (have E1 := @encTold.eq_1))
      (all_goals (have E2 := @encMsg.eq_1))
      (all_goals (have E3 := @zeroTold.eq_1))
      (all_goals (have E4 := @zeroRing.eq_1))
      repeat' (first | refine oneF ?_ | (refine two ?_ ?_; all_goals (intro h; try simp only [Bool.not_eq_true', Bool.not_eq_false', reduceCtorEq] at h)) | fail)
      all_goals (try clear E0 E1 E2 E3 E4)
      all_goals (
        refine ⟨0, by omega, R, L, c, hK.out, ?_⟩
        clear hK
        (rw [clr_eq]; rotate_left; rfl; simp only [keepB, go_sem, Nat.reduceBEq, Nat.reduceAdd, cond_true, cond_false, *]; simp only [clrG, Nat.reduceBEq, Nat.reduceAdd, cond_true, cond_false])
        first | done | rfl)
noncomputable abbrev ic_spec_Pull := Con.mk (P := P) (f := 24) Try.call24 @c_spec_Pull
attribute [instance] ic_spec_Pull
end Go.Proofs.Ytlgdijjkegeccaa
