/- Contracts: they wait rightly. -/
import Derived.Test.YtlgdijjkegeccaaGreatFnR
import Derived.Test.YtlgdijjkegeccaaGreatKX
namespace Go.Proofs.YtlgdijjkegeccaaGreat
open Go Go.RowKit Go.Bv
set_option linter.unusedSimpArgs false
set_option linter.unusedVariables false
set_option maxRecDepth 4000
set_option maxHeartbeats 1000000
/-! The walks that end. -/
theorem sFnSw61F {p q : Prop} (k : q) (h : q → p := by
  first
  | exact shAR 6 (by exact i_S hT [[], [0], [0, 1], [0, 1, 2], [0, 1, 2], [0, 1, 2, 3, 4], [0, 1, 2], [0, 1, 2, 3, 4, 5, 6], [0, 1, 2, 3, 4, 5, 6, 7], [0, 1, 2, 3, 4, 5, 6, 7, 8], [0, 1, 2, 3, 4, 5, 6, 7, 8, 9], [0, 1, 2, 3, 4, 5, 6, 7, 8, 9], [0, 1, 2, 3, 4, 5, 6, 7, 8, 9, 11], [0, 1, 2, 3, 4, 5, 6, 7, 8, 9, 11, 12], [0, 1, 2, 3, 4, 5, 6, 7, 8, 9, 10, 11, 12, 13], [0, 1, 2, 3, 4, 5, 6, 7, 8, 9, 10, 11, 12, 13, 14], [0, 1, 2, 3, 4, 5, 6, 7, 8, 9, 10, 11, 12, 13, 14, 15], [0, 1, 2, 3, 4, 5, 6, 7, 8, 9, 10, 11, 12, 13, 14, 15, 16], [0, 1, 2, 3, 4, 5, 6, 7, 8, 9, 10, 11, 12, 13, 14, 15], [0, 1, 2, 3, 4, 5, 6, 7, 8, 9, 10, 11, 12, 13, 14, 15, 16, 17, 18], [0, 1, 2, 3, 4, 5, 6, 7, 8, 9, 10, 11, 12, 13, 14, 15, 16, 17, 18, 19], [0, 1, 2, 3, 4, 5, 6, 7, 8, 9, 10, 11, 12, 13, 14, 15, 16, 17, 18, 19, 20], [0, 1, 2, 3, 4, 5, 6, 7, 8, 9, 10, 11, 12, 13, 14, 15], [0, 1, 2, 3, 4, 5, 6, 7, 8, 9, 10, 11, 12, 13, 14, 15, 22], [0, 1, 2, 3, 4, 5, 6, 7, 8, 9, 10, 11, 12, 13, 14, 15, 16, 17, 18, 19, 20, 21, 22, 23], [0, 1, 2, 3, 4, 5, 6, 7, 8, 9, 10, 11, 12, 13, 14, 15, 16, 17, 18, 19, 20, 21, 22, 23, 24], [0, 1, 2, 3, 4, 5, 6, 7, 8, 9, 10, 11, 12, 13, 14, 15, 16, 17, 18, 19, 20, 21, 22, 23, 24, 25]] [23, 24, 25, 26, 27, 28, 29, 30, 31, 32, 33, 34, 35, 36, 37, 38, 39, 40, 41, 42, 43, 44, 45, 46, 47, 48, 49])
  | exact i1F
  | fail) : p := h k
theorem wFnSw61_0 {p : Prop} (h : p := by
  have E0 := @encRing.eq_1
  have E1 := @encInt.eq_1
  repeat' (first | refine sFnSw61F ?_ | (refine two ?_ ?_; all_goals (intro h; try simp only [Bool.not_eq_true', Bool.not_eq_false', reduceCtorEq] at h)) | fail)
  all_goals (simp only [go_sem, *]; first | done | rfl)) : p := h
theorem wFnSw61_1 {p : Prop} (h : p := by
  have E0 := @encRing.eq_1
  have E1 := @encInt.eq_1
  have E2 := @encSub.eq_1
  repeat' (first | refine sFnSw61F ?_ | (refine two ?_ ?_; all_goals (intro h; try simp only [Bool.not_eq_true', Bool.not_eq_false', reduceCtorEq] at h)) | fail)
  all_goals (simp only [go_sem, *]; first | done | rfl)) : p := h

/-- Of all numbers below n. -/
def allTo (q : Nat → Bool) (n : Nat) : Bool := (List.range n).all q
theorem allTo_zero (q : Nat → Bool) : allTo q 0 = true := rfl
theorem allTo_succ (q : Nat → Bool) (n : Nat) : allTo q (n + 1) = (allTo q n && q n) := by simp [allTo, List.range_succ]
theorem allTo_not {q : Nat → Bool} {i n : Nat} (h : i < n) (hq : q i = false) : allTo q n = false := by
  rw [allTo, List.all_eq_false]
  exact ⟨i, by simpa using h, by simp [hq]⟩
theorem allTo_iff {q : Nat → Bool} {n : Nat} : allTo q n = true ↔ ∀ i, i < n → q i = true := by simp [allTo]
/-- The i-th subscription is right. -/
def subsQ (r : RingV) (i : Nat) : Bool := match r.subs[i]? with
  | none => true
  | some s => (decide (s.id ≥ 0) && decide (s.id ≤ r.next - 1)) && subB r s && (decide (i = 0) || match r.subs[i - 1]? with | some q => decide (q.id < s.id) | none => true)
/-- The i-th that waits does so rightly. -/
def waitQ (r : RingV) (all : List Int) (i : Nat) : Bool := match all[i]? with
  | none => true
  | some id => decide (0 ≤ atI r.subs id) && !((all.take i).any (· == id)) && (!(decide (i < r.line.length)) || match r.subs[(atI r.subs id).toNat]? with | some s => s.cursor == r.sent | none => true)
def waitB (r : RingV) : Bool := allTo (waitQ r (r.line ++ r.grants)) (r.line ++ r.grants).length && !(r.closed && decide (0 < r.line.length))
def ringB (r : RingV) : Bool :=
  (decide (r.cap ≥ 1) && decide (r.cap ≤ 16)) && (decide (r.sent ≥ 0) && decide (r.sent ≤ 1000000000)) && (decide (r.next ≥ 0) && decide (r.next ≤ 1000000000)) && decide (r.subs.length ≤ 12) &&
    allTo (subsQ r) r.subs.length && r.items.all msgB && ((r.items.length : Int) == r.sent - oldestI r) && waitB r
theorem atI_at {f : List SubV} {id : Int} (h : 0 ≤ atI f id) : ∃ (k : Nat) (s : SubV), atI f id = (k : Nat) ∧ k < f.length ∧ f[k]? = some s ∧ (s.id == id) = true := by
  rcases idxP_cases (fun s : SubV => s.id == id) f with ⟨h1, _⟩ | ⟨k, s, h1, h2, h3, h4, _⟩
  · unfold atI at h; rw [h1] at h; omega
  · exact ⟨k, s, h1, h2, h3, h4⟩

theorem any_not {α : Type} (p : α → Bool) (f : List α) : (f.any fun x => !p x) = !(f.all p) := by
  induction f with
  | nil => rfl
  | cons x f ih => simp only [List.any_cons, List.all_cons, ih, Bool.not_and]
theorem leastI_le (f : List SubV) (l : Int) : leastI f l ≤ l := by
  unfold leastI
  induction f generalizing l with
  | nil => exact Int.le_refl _
  | cons s f ih =>
    simp only [List.foldl_cons]
    refine Int.le_trans (ih _) ?_
    split <;> omega
theorem oldestI_in {r : RingV} (h0 : 0 ≤ r.sent) (h1 : 1 ≤ r.cap) : 0 ≤ oldestI r ∧ oldestI r ≤ r.sent ∧ r.sent - r.cap ≤ oldestI r := by
  have := leastI_le r.subs r.sent
  unfold oldestI
  (repeat' split) <;> omega
set_option maxHeartbeats 8000000 in
theorem c_impl_waitersOk (r : RingV) {u : AV} (hu : u = encRing false r) (hr : okRing r) (h1 : r.line.length ≤ 1048576) (h2 : r.grants.length ≤ 1048576) : Sound P 61 [u] (.bool (waitB r)) := by
  subst hu
  have hl : r.subs.length < 4611686018427387904 := hr.2.1.1
  refine snd_b hT Tryz.func61 Tryz.results61 Tryz.ntmps61 ?_
  (all_goals (have E0 := @encRing.eq_1))
  repeat' (first | refine sFnSw61F ?_ | (refine two ?_ ?_; all_goals (intro h; try simp only [Bool.not_eq_true', Bool.not_eq_false', reduceCtorEq] at h)) | fail)
  all_goals (try clear E0)
  have hgl : decide ((r.line.length : Int) > 0) = decide (0 < r.line.length) := by simp
  obtain ⟨A, hA⟩ : ∃ A, r.line ++ r.grants = A := ⟨_, rfl⟩
  have hAl : A.length = r.line.length + r.grants.length := by rw [← hA]; simp
  have hA2 : A.length ≤ 2097152 := by omega
  rw [hA]
  have hwB : waitB r = (allTo (waitQ r A) A.length && !(r.closed && decide (0 < r.line.length))) := by rw [← hA]; rfl
  rw [hwB]
  refine aw_loop [4, 5, 6, 7, 8, 9, 10, 11, 12, 16, 17, 18, 19, 20, 21, 22, 23, 24, 25, 26, 27, 28, 29, 30, 31, 32, 33, 34, 35, 36, 37, 38, 39, 40, 41, 42, 43, 44, 45, 46, 47, 48, 49, 50, 51, 52, 53, 54, 55, 56, 57, 58, 59] (fun n S => ∃ i : Nat, n = A.length - i ∧ i ≤ A.length ∧ allTo (waitQ r A) i = true ∧ S = [encRing false r, .box (encRing false r), .bool false, .lst true 1 (A.map encInt), .undef, .undef, .undef, .undef, .undef, .undef, .undef, .undef, .undef, .ref 3 [] 0 A.length, .int .i64 A.length, .int .i64 i, .undef, .undef, .undef, .undef, .undef, .undef, .undef, .undef, .undef, .undef, .undef, .undef, .undef, .undef, .undef, .undef, .undef, .undef, .undef, .undef, .undef, .undef, .undef, .undef, .undef, .undef, .undef, .undef, .undef, .undef, .undef, .undef, .undef, .undef, .undef, .undef, .undef, .undef, .undef, .undef, .undef, .undef, .undef, .undef]) A.length ?_ ?_
  · refine ⟨0, by simp, by omega, rfl, ?_⟩
    simp only [clr, go_sem]
    first | done | rfl | (simp only [List.length_map, ← hAl]; rfl)
  · clear hAl hA
    rintro n S ⟨i, hn, hi, ha, rfl⟩
    have hwi : IntKind.i64.wrap ((i : Int) + 1) = ((i + 1 : Nat) : Int) := by rw [wrap_small] <;> omega
    by_cases hlt : i < A.length
    · have hd : decide ((i : Int) < (A.length : Int)) = true := by simp [hlt]
      have hd2 : (i : Int) < (A.length : Int) := by omega
      obtain ⟨id, hid⟩ : ∃ id, A[i]? = some id := ⟨A[i], by simp [hlt]⟩
      have hq : waitQ r A i = (decide (0 ≤ atI r.subs id) && !((A.take i).any (· == id)) && (!(decide (i < r.line.length)) || match r.subs[(atI r.subs id).toNat]? with | some s => s.cursor == r.sent | none => true)) := by
        unfold waitQ; rw [hid]
      have htk : List.take i (A.map encInt) = (A.take i).map encInt := (List.map_take ..).symm
      have htl : (A.take i).length < 4611686018427387904 := by simp; omega
      have hi0 : (0 : Int) ≤ (i : Int) := by omega
      have hile : (i : Int) ≤ (A.length : Int) := by omega
      by_cases hneg : atI r.subs id < 0
      · have g1 : decide (atI r.subs id < 0) = true := decide_eq_true hneg
        have hf : allTo (waitQ r A) A.length = false := allTo_not hlt (by rw [hq, decide_eq_false (by omega)]; simp)
        rw [hf]
        clear hq hwB
        exact wFnSw61_0
      · have g1 : decide (atI r.subs id < 0) = false := decide_eq_false hneg
        obtain ⟨k, s, hk, hkl, hks, _⟩ := atI_at (f := r.subs) (id := id) (by omega)
        have g1k : decide ((k : Int) < 0) = false := decide_eq_false (by omega)
        cases hH : (A.take i).any (· == id)
        · have hkl2 : (k : Int) < (r.subs.length : Int) := by omega
          by_cases hil : i < r.line.length
          · have g2 : decide ((i : Int) < (r.line.length : Int)) = true := by simp [hil]
            cases hC : (s.cursor != r.sent)
            · have hqt : waitQ r A i = true := by
                rw [hq, hk, hH, Int.toNat_natCast, hks]
                have : (s.cursor == r.sent) = true := by simpa [bne] using hC
                simp [this]
              clear hq hwB
              (all_goals (have E0 := @encRing.eq_1))
              (all_goals (have E1 := @encInt.eq_1))
              (all_goals (have E2 := @encSub.eq_1))
              repeat' (first | refine sFnSw61F ?_ | (refine two ?_ ?_; all_goals (intro h; try simp only [Bool.not_eq_true', Bool.not_eq_false', reduceCtorEq] at h)) | fail)
              all_goals (try clear E0 E1 E2)
              all_goals (
                refine ⟨A.length - (i + 1), by omega, i + 1, rfl, by omega, by rw [allTo_succ, ha, hqt]; rfl, ?_⟩
                simp only [clr, go_sem]
                first | done | rfl)
            · have hqt : waitQ r A i = false := by
                rw [hq, hk, hH, Int.toNat_natCast, hks]
                have : (s.cursor == r.sent) = false := by simpa [bne] using hC
                simp [this, hil]
              have hf : allTo (waitQ r A) A.length = false := allTo_not hlt hqt
              rw [hf]
              clear hq hwB
              exact wFnSw61_1
          · have g2 : decide ((i : Int) < (r.line.length : Int)) = false := by simp; omega
            have hqt : waitQ r A i = true := by
              rw [hq, hk, hH, decide_eq_false hil]
              simp
            clear hq hwB
            (all_goals (have E0 := @encRing.eq_1))
            (all_goals (have E1 := @encInt.eq_1))
            (all_goals (have E2 := @encSub.eq_1))
            repeat' (first | refine sFnSw61F ?_ | (refine two ?_ ?_; all_goals (intro h; try simp only [Bool.not_eq_true', Bool.not_eq_false', reduceCtorEq] at h)) | fail)
            all_goals (try clear E0 E1 E2)
            all_goals (
              refine ⟨A.length - (i + 1), by omega, i + 1, rfl, by omega, by rw [allTo_succ, ha, hqt]; rfl, ?_⟩
              simp only [clr, go_sem]
              first | done | rfl)
        · have hf : allTo (waitQ r A) A.length = false := allTo_not hlt (by rw [hq, hH]; simp)
          rw [hf]
          clear hq hwB
          exact wFnSw61_0
    · have hd : decide ((i : Int) < (A.length : Int)) = false := by simp; omega
      have e : i = A.length := by omega
      have hf : allTo (waitQ r A) A.length = true := by rw [← e]; exact ha
      clear e
      rw [hf]
      clear hwB
      (all_goals (have E0 := @encRing.eq_1))
      repeat' (first | refine sFnSw61F ?_ | (refine two ?_ ?_; all_goals (intro h; try simp only [Bool.not_eq_true', Bool.not_eq_false', reduceCtorEq] at h)) | fail)
      all_goals (try clear E0)
      all_goals ((simp only [go_sem, *]); first | done | (simp_all; done))
noncomputable abbrev ic_impl_waitersOk := Con.mk (P := P) (f := 61) Tryz.call61 @c_impl_waitersOk
attribute [instance] ic_impl_waitersOk
end Go.Proofs.YtlgdijjkegeccaaGreat
