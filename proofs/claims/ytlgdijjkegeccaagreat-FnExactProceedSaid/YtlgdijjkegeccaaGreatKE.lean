/- Contracts: what a filter leaves of a message: the specification's. What one reading of a ring comes to. -/
import Derived.Test.YtlgdijjkegeccaaGreatFnPd
import Derived.Test.YtlgdijjkegeccaaGreatBvM5
import Derived.Test.YtlgdijjkegeccaaGreatKR
import Derived.Test.YtlgdijjkegeccaaGreatGlTold
namespace Go.Proofs.YtlgdijjkegeccaaGreat
open Go Go.RowKit Go.Bv
set_option linter.unusedSimpArgs false
set_option linter.unusedVariables false
set_option maxRecDepth 4000
/-! The walks that end. -/
theorem sFnPe73F {p q : Prop} (k : q) (h : q → p := by
  first
  | exact shAR 7 (by exact i_W hT [[], [], [], [1, 2], [1, 2, 3], [], [1, 2, 3, 4, 5], [1, 2, 3, 4, 5, 6], [0, 1, 2, 3, 4, 5, 6, 7], [0, 1, 2, 3, 4, 5, 6, 7, 8]] [[(22, _)], [(23, _)], [(24, _)], [(25, _)], [(26, _)], [(27, _)], [(28, _)], [(29, _)], [(30, _), (5, _), (15, _), (33, _), (36, _), (39, _), (42, _), (45, _), (48, _), (51, _), (53, _), (54, _), (57, _), (60, _), (61, _), (64, _), (67, _), (70, _), (73, _), (75, _), (76, _), (79, _), (82, _), (83, _), (86, _), (22, _), (91, _), (92, _)], [(5, _), (30, _)]] (by decide +kernel) (by refine st_oF [8, 9] ?_; refine st_oF [3, 4, 6, 7, 8, 9] ?_; refine st_oF [3, 4, 6, 7, 8, 9] ?_; refine st_oF [4, 6, 7, 8, 9] ?_; refine st_oF [6, 7, 8, 9] ?_; refine st_oF [6, 7, 8, 9] ?_; refine st_oF [7, 8, 9] ?_; refine st_oF [8, 9] ?_; refine st_oF [9] ?_; refine st_oF [] ?_; exact steps_nil))
  | exact i1F
  | fail) : p := h k
theorem wFnPe73_0 {p : Prop} (h : p := by
  have E0 := @encMsg.eq_1
  have E1 := @encT.eq_1
  have E2 := @encBool.eq_1
  repeat' (first | refine sFnPe73F ?_ | (refine two ?_ ?_; all_goals (intro h; try simp only [Bool.not_eq_true', Bool.not_eq_false', reduceCtorEq] at h)) | fail)
  all_goals (simp only [go_sem, *]; first | done | rfl)) : p := h
-- VIEWS
set_option maxHeartbeats 8000000

theorem c_spec_l8Left (f : List TermV) (m : MsgV) {u v : AV} (hu : u = .lst false 3 (f.map encT)) (hv : v = encMsg false m) (hf : filterB f = true) (hm : msgB m = true) : Sound P 73 [u, v] (.bool (leftB f m)) := by
  subst hu hv
  obtain ⟨hl12, hend⟩ := left_end m hf
  refine snd_b hT Tryz.func73 Tryz.results73 Tryz.ntmps73 ?_
  (all_goals (have E0 := @encMsg.eq_1))
  repeat' (first | refine sFnPe73F ?_ | (refine two ?_ ?_; all_goals (intro h; try simp only [Bool.not_eq_true', Bool.not_eq_false', reduceCtorEq] at h)) | fail)
  all_goals (try clear E0)
  refine aw_loop [2, 7, 8, 9, 10, 11, 12, 13, 14, 15, 16, 17, 18, 19, 20, 21, 22, 23, 24, 25, 26, 27, 28, 29, 30, 31, 32, 33, 34, 35, 36, 37, 38, 39, 40, 41, 42, 43, 44, 45, 46, 47, 48, 49, 50, 51, 52, 53, 54, 55, 56, 57, 58, 59, 60, 61, 62, 63, 64, 65, 66, 67, 68, 69, 70, 71, 72, 73, 74, 75, 76, 77, 78, 79, 80, 81, 82, 83, 84, 85, 86, 87, 88, 89, 90, 91, 92, 93, 94] (fun n S => ∃ i : Nat, n = f.length - i ∧ i ≤ f.length ∧ S = [.lst false 3 (f.map encT), encMsg false m, .undef, .box (encMsg false m), .bool false, .lst true 1 ((bstack (f.take i) m).map encBool), .int .i64 i, .undef, .undef, .undef, .undef, .undef, .undef, .undef, .undef, .undef, .undef, .undef, .undef, .undef, .undef, .undef, .undef, .undef, .undef, .undef, .undef, .undef, .undef, .undef, .undef, .undef, .undef, .undef, .undef, .undef, .undef, .undef, .undef, .undef, .undef, .undef, .undef, .undef, .undef, .undef, .undef, .undef, .undef, .undef, .undef, .undef, .undef, .undef, .undef, .undef, .undef, .undef, .undef, .undef, .undef, .undef, .undef, .undef, .undef, .undef, .undef, .undef, .undef, .undef, .undef, .undef, .undef, .undef, .undef, .undef, .undef, .undef, .undef, .undef, .undef, .undef, .undef, .undef, .undef, .undef, .undef, .undef, .undef, .undef, .undef, .undef, .undef, .undef, .undef]) f.length ?_ ?_
  · refine ⟨0, by simp, by omega, ?_⟩
    rw [show (bstack (f.take 0) m).map encBool = [] from rfl]
    (rw [clr_eq]; rotate_left; rfl; simp only [keepB, go_sem, Nat.reduceBEq, Nat.reduceAdd, cond_true, cond_false, *]; simp only [clrG, Nat.reduceBEq, Nat.reduceAdd, cond_true, cond_false])
    first | done | rfl
  rintro n S ⟨i, hn, hi, rfl⟩
  have hwi : IntKind.i64.wrap ((i : Int) + 1) = ((i + 1 : Nat) : Int) := by rw [wrap_small] <;> omega
  by_cases hlt : i < f.length
  · have hd : decide ((i : Int) < (f.length : Int)) = true := by simp [hlt]
    obtain ⟨t, hti⟩ : ∃ t, f[i]? = some t := ⟨f[i], by simp [hlt]⟩
    obtain ⟨ht, htk⟩ := left_at m hf hti
    have hsucc := bstack_succ hti m
    have hsl := bstack_le f m i hi
    have hi0 : (0 : Int) ≤ (i : Int) := by omega
    have hi1 : (i : Int) < (f.length : Int) := by omega
    obtain ⟨st, hst⟩ : ∃ st, bstack (f.take i) m = st := ⟨_, rfl⟩
    rw [hst] at htk hsucc hsl ⊢
    obtain ⟨st', hst'⟩ : ∃ st', bstep m st t = st' := ⟨_, rfl⟩
    rw [hst'] at hsucc
    have hsl2 : st.length ≤ 12 := by omega
    rcases takes_cases (takesI_le t.op).2 with ⟨k0, k8, k9, k10⟩ | ⟨k8, hk⟩ | ⟨k9, hk⟩ | ⟨k10, hk⟩
    · have e0 : st.map encBool ++ [.bool (saysB t m)] = st'.map encBool := by rw [← hst', bstep_lay k0, List.map_append]; rfl
      clear hst hst' htk hend hf hsl
      (all_goals (have E0 := @encMsg.eq_1))
      (all_goals (have E1 := @encT.eq_1))
      (all_goals (have E2 := @encBool.eq_1))
      repeat' (first | refine sFnPe73F ?_ | (refine two ?_ ?_; all_goals (intro h; try simp only [Bool.not_eq_true', Bool.not_eq_false', reduceCtorEq] at h)) | fail)
      all_goals (try clear E0 E1 E2)
      all_goals (
        refine ⟨f.length - (i + 1), by omega, i + 1, rfl, by omega, ?_⟩
        rw [hsucc]
        (rw [clr_eq]; rotate_left; rfl; simp only [keepB, go_sem, Nat.reduceBEq, Nat.reduceAdd, cond_true, cond_false, *]; simp only [clrG, Nat.reduceBEq, Nat.reduceAdd, cond_true, cond_false])
        first | done | rfl)
    · obtain ⟨p, hp⟩ : ∃ p, st.length = p + 1 := ⟨st.length - 1, by omega⟩
      obtain ⟨b, hb⟩ : ∃ b, st[p]? = some b := ⟨st[p]'(by omega), List.getElem?_eq_getElem _⟩
      have e8 := bstep_not (m := m) k8 hp hb
      rw [hst'] at e8
      have w1 : IntKind.i64.wrap ((st.length : Int) - 1) = (p : Int) := by rw [wrap_small] <;> omega
      have hp0 : (0 : Int) ≤ (p : Int) := by omega
      have hp1 : (p : Int) < (st.length : Int) := by omega
      have hp2 : p < st.length := by omega
      have z8 : (t.op == 8) = true := by rw [k8]; rfl
      clear hst hst' htk hend hf hsl hk hp k8
      (all_goals (have E0 := @encMsg.eq_1))
      (all_goals (have E1 := @encT.eq_1))
      (all_goals (have E2 := @encBool.eq_1))
      repeat' (first | refine sFnPe73F ?_ | (refine two ?_ ?_; all_goals (intro h; try simp only [Bool.not_eq_true', Bool.not_eq_false', reduceCtorEq] at h)) | fail)
      all_goals (try clear E0 E1 E2)
      all_goals (
        refine ⟨f.length - (i + 1), by omega, i + 1, rfl, by omega, ?_⟩
        rw [hsucc]
        (rw [clr_eq]; rotate_left; rfl; simp only [keepB, go_sem, Nat.reduceBEq, Nat.reduceAdd, cond_true, cond_false, *]; simp only [clrG, Nat.reduceBEq, Nat.reduceAdd, cond_true, cond_false])
        first | done | rfl)
    · obtain ⟨q, hq⟩ : ∃ q, st.length = q + 2 := ⟨st.length - 2, by omega⟩
      obtain ⟨a, ha⟩ : ∃ a, st[q]? = some a := ⟨st[q]'(by omega), List.getElem?_eq_getElem _⟩
      obtain ⟨b, hb⟩ : ∃ b, st[q + 1]? = some b := ⟨st[q + 1]'(by omega), List.getElem?_eq_getElem _⟩
      have w1 : IntKind.i64.wrap ((st.length : Int) - 1) = ((q + 1 : Nat) : Int) := by rw [wrap_small] <;> omega
      have w2 : IntKind.i64.wrap ((st.length : Int) - 2) = (q : Int) := by rw [wrap_small] <;> omega
      have hp0 : (0 : Int) ≤ (q : Int) := by omega
      have hp1 : (q : Int) < (st.length : Int) := by omega
      have hp2 : q < st.length := by omega
      have hp3 : (q : Int) ≤ (st.length : Int) := by omega
      have hr0 : (0 : Int) ≤ ((q + 1 : Nat) : Int) := by omega
      have hr1 : ((q + 1 : Nat) : Int) < (st.length : Int) := by omega
      have hr2 : q + 1 < st.length := by omega
      have hr3 : ((q + 1 : Nat) : Int) ≤ (st.length : Int) := by omega
      have z8 : (t.op == 8) = false := by rw [k9]; rfl
      have z9 : (t.op == 9) = true := by rw [k9]; rfl
      have hql : (List.take q (List.map encBool st)).length ≤ 12 := by simp; omega
      cases a with
      | true =>
        have e9 := bstep_two (m := m) (t := t) (.inl k9) hq ha hb (x := b) (by rw [k9]; rfl)
        rw [hst'] at e9
        obtain ⟨e9, e9'⟩ := e9
        obtain ⟨mid, hmid⟩ : ∃ mid, st.set q b = mid := ⟨_, rfl⟩
        have hml : mid.length = st.length := by rw [← hmid, List.length_set]
        have em : (st.map encBool).set q (.bool b) = mid.map encBool := by rw [← hmid, List.map_set]; rfl
        rw [em] at e9'
        clear hst hst' htk hend hf hsl hk hq k9 hmid
        (all_goals (have E0 := @encMsg.eq_1))
        (all_goals (have E1 := @encT.eq_1))
        (all_goals (have E2 := @encBool.eq_1))
        repeat' (first | refine sFnPe73F ?_ | (refine two ?_ ?_; all_goals (intro h; try simp only [Bool.not_eq_true', Bool.not_eq_false', reduceCtorEq] at h)) | fail)
        all_goals (try clear E0 E1 E2)
        all_goals (
          refine ⟨f.length - (i + 1), by omega, i + 1, rfl, by omega, ?_⟩
          rw [hsucc]
          (rw [clr_eq]; rotate_left; rfl; simp only [keepB, go_sem, Nat.reduceBEq, Nat.reduceAdd, cond_true, cond_false, *]; simp only [clrG, Nat.reduceBEq, Nat.reduceAdd, cond_true, cond_false])
          first | done | rfl)
      | false =>
        have e9 := bstep_two (m := m) (t := t) (.inl k9) hq ha hb (x := false) (by rw [k9]; rfl)
        rw [hst'] at e9
        obtain ⟨e9, e9'⟩ := e9
        obtain ⟨mid, hmid⟩ : ∃ mid, st.set q false = mid := ⟨_, rfl⟩
        have hml : mid.length = st.length := by rw [← hmid, List.length_set]
        have em : (st.map encBool).set q (.bool false) = mid.map encBool := by rw [← hmid, List.map_set]; rfl
        rw [em] at e9'
        clear hst hst' htk hend hf hsl hk hq k9 hmid
        (all_goals (have E0 := @encMsg.eq_1))
        (all_goals (have E1 := @encT.eq_1))
        (all_goals (have E2 := @encBool.eq_1))
        repeat' (first | refine sFnPe73F ?_ | (refine two ?_ ?_; all_goals (intro h; try simp only [Bool.not_eq_true', Bool.not_eq_false', reduceCtorEq] at h)) | fail)
        all_goals (try clear E0 E1 E2)
        all_goals (
          refine ⟨f.length - (i + 1), by omega, i + 1, rfl, by omega, ?_⟩
          rw [hsucc]
          (rw [clr_eq]; rotate_left; rfl; simp only [keepB, go_sem, Nat.reduceBEq, Nat.reduceAdd, cond_true, cond_false, *]; simp only [clrG, Nat.reduceBEq, Nat.reduceAdd, cond_true, cond_false])
          first | done | rfl)
    · obtain ⟨q, hq⟩ : ∃ q, st.length = q + 2 := ⟨st.length - 2, by omega⟩
      obtain ⟨a, ha⟩ : ∃ a, st[q]? = some a := ⟨st[q]'(by omega), List.getElem?_eq_getElem _⟩
      obtain ⟨b, hb⟩ : ∃ b, st[q + 1]? = some b := ⟨st[q + 1]'(by omega), List.getElem?_eq_getElem _⟩
      have w1 : IntKind.i64.wrap ((st.length : Int) - 1) = ((q + 1 : Nat) : Int) := by rw [wrap_small] <;> omega
      have w2 : IntKind.i64.wrap ((st.length : Int) - 2) = (q : Int) := by rw [wrap_small] <;> omega
      have hp0 : (0 : Int) ≤ (q : Int) := by omega
      have hp1 : (q : Int) < (st.length : Int) := by omega
      have hp2 : q < st.length := by omega
      have hp3 : (q : Int) ≤ (st.length : Int) := by omega
      have hr0 : (0 : Int) ≤ ((q + 1 : Nat) : Int) := by omega
      have hr1 : ((q + 1 : Nat) : Int) < (st.length : Int) := by omega
      have hr2 : q + 1 < st.length := by omega
      have hr3 : ((q + 1 : Nat) : Int) ≤ (st.length : Int) := by omega
      have z8 : (t.op == 8) = false := by rw [k10]; rfl
      have z9 : (t.op == 9) = false := by rw [k10]; rfl
      have z10 : (t.op == 10) = true := by rw [k10]; rfl
      have hql : (List.take q (List.map encBool st)).length ≤ 12 := by simp; omega
      cases a with
      | false =>
        have e9 := bstep_two (m := m) (t := t) (.inr k10) hq ha hb (x := b) (by rw [k10]; rfl)
        rw [hst'] at e9
        obtain ⟨e9, e9'⟩ := e9
        obtain ⟨mid, hmid⟩ : ∃ mid, st.set q b = mid := ⟨_, rfl⟩
        have hml : mid.length = st.length := by rw [← hmid, List.length_set]
        have em : (st.map encBool).set q (.bool b) = mid.map encBool := by rw [← hmid, List.map_set]; rfl
        rw [em] at e9'
        clear hst hst' htk hend hf hsl hk hq k10 hmid
        (all_goals (have E0 := @encMsg.eq_1))
        (all_goals (have E1 := @encT.eq_1))
        (all_goals (have E2 := @encBool.eq_1))
        repeat' (first | refine sFnPe73F ?_ | (refine two ?_ ?_; all_goals (intro h; try simp only [Bool.not_eq_true', Bool.not_eq_false', reduceCtorEq] at h)) | fail)
        all_goals (try clear E0 E1 E2)
        all_goals (
          refine ⟨f.length - (i + 1), by omega, i + 1, rfl, by omega, ?_⟩
          rw [hsucc]
          (rw [clr_eq]; rotate_left; rfl; simp only [keepB, go_sem, Nat.reduceBEq, Nat.reduceAdd, cond_true, cond_false, *]; simp only [clrG, Nat.reduceBEq, Nat.reduceAdd, cond_true, cond_false])
          first | done | rfl)
      | true =>
        have e9 := bstep_two (m := m) (t := t) (.inr k10) hq ha hb (x := true) (by rw [k10]; rfl)
        rw [hst'] at e9
        obtain ⟨e9, e9'⟩ := e9
        obtain ⟨mid, hmid⟩ : ∃ mid, st.set q true = mid := ⟨_, rfl⟩
        have hml : mid.length = st.length := by rw [← hmid, List.length_set]
        have em : (st.map encBool).set q (.bool true) = mid.map encBool := by rw [← hmid, List.map_set]; rfl
        rw [em] at e9'
        clear hst hst' htk hend hf hsl hk hq k10 hmid
        (all_goals (have E0 := @encMsg.eq_1))
        (all_goals (have E1 := @encT.eq_1))
        (all_goals (have E2 := @encBool.eq_1))
        repeat' (first | refine sFnPe73F ?_ | (refine two ?_ ?_; all_goals (intro h; try simp only [Bool.not_eq_true', Bool.not_eq_false', reduceCtorEq] at h)) | fail)
        all_goals (try clear E0 E1 E2)
        all_goals (
          refine ⟨f.length - (i + 1), by omega, i + 1, rfl, by omega, ?_⟩
          rw [hsucc]
          (rw [clr_eq]; rotate_left; rfl; simp only [keepB, go_sem, Nat.reduceBEq, Nat.reduceAdd, cond_true, cond_false, *]; simp only [clrG, Nat.reduceBEq, Nat.reduceAdd, cond_true, cond_false])
          first | done | rfl)
  · have hd : decide ((i : Int) < (f.length : Int)) = false := by simp; omega
    have ht : f.take i = f := List.take_of_length_le (by omega)
    rw [ht]
    rcases hend with ⟨hnil, hs⟩ | ⟨hne, b, hs⟩
    · have hv := leftB_nil hs
      subst hnil
      rw [hv, hs]
      clear hv hs ht hf hd
      have hd : decide ((i : Int) < 0) = false := decide_eq_false (by omega)
      have hz0 : ((0 : Int) == 0) = true := rfl
      simp only [List.map_nil, List.length_nil]
      exact wFnPe73_0
    · have hv := leftB_one hs
      have hz : ((f.length : Int) == 0) = false := by
        have : f.length ≠ 0 := fun e => hne (List.eq_nil_of_length_eq_zero e)
        rw [beq_eq_false_iff_ne]; omega
      have hz1 : (((1 : Nat) : Int) == 0) = false := rfl
      rw [hv, hs]
      clear hv hs ht hf hne
      simp only [List.map_cons, List.map_nil, encBool]
      exact wFnPe73_0
noncomputable abbrev ic_spec_l8Left := Con.mk (P := P) (f := 73) Tryz.call73 @c_spec_l8Left
attribute [instance] ic_spec_l8Left
end Go.Proofs.YtlgdijjkegeccaaGreat
namespace Go.Proofs.YtlgdijjkegeccaaGreat
open Go Go.RowKit Go.Bv
set_option linter.unusedSimpArgs false
set_option linter.unusedVariables false
set_option maxRecDepth 4000
set_option maxHeartbeats 1000000

/-- What a reading leans on. -/
structure ReadIs (r : RingV) : Prop where
  cap1 : 1 ≤ r.cap
  cap2 : r.cap ≤ 16
  sent1 : 0 ≤ r.sent
  sent2 : r.sent ≤ 1000000000
  sub : ∀ (i : Nat) (s : SubV), r.subs[i]? = some s → SubIs r s
  items : (r.items.length : Int) = r.sent - oldestI r
  msgs : r.items.all msgB = true
theorem RingIs.read {r : RingV} (h : RingIs r) : ReadIs r := ⟨h.cap1, h.cap2, h.sent1, h.sent2, fun _ _ hs => h.at hs, h.items, h.msgs⟩
theorem ReadIs.grants {r : RingV} (h : ReadIs r) (f g : List Int) : ReadIs { r with line := f, grants := g } := ⟨h.cap1, h.cap2, h.sent1, h.sent2, fun i s hs => subIs_line (h.sub i s hs), h.items, h.msgs⟩
where subIs_line {r : RingV} {s : SubV} {f g : List Int} (h : SubIs r s) : SubIs { r with line := f, grants := g } s := ⟨h.start, h.cur1, h.cur2, h.filter, h.got1, h.got2, h.lost1, h.lost2, h.pass1, h.pass2, h.sum⟩
theorem ReadIs.len {r : RingV} (h : ReadIs r) : r.items.length ≤ 16 := by
  have h1 := oldestI_in h.sent1 h.cap1
  have h2 := h.items
  have h3 := h.cap2
  omega
/-- How many kept messages lie ahead of its cursor. -/
def offN (r : RingV) (s : SubV) : Nat := (s.cursor - (r.sent - r.items.length)).toNat
def aheadL (r : RingV) (s : SubV) : List MsgV := r.items.drop (offN r s)
def passN (r : RingV) (s : SubV) : Nat := ((aheadL r s).takeWhile fun m => !leftB s.filter m).length
def gotM (r : RingV) (s : SubV) : Option MsgV := (aheadL r s)[passN r s]?
def goneQ (r : RingV) (s : SubV) : Int := r.sent - r.cap - s.cursor
def readS (r : RingV) (s : SubV) : SubV :=
  if goneQ r s > 0 then ⟨s.id, s.start, s.cursor + goneQ r s, s.got, s.lost + goneQ r s, s.passed, s.filter⟩
  else match gotM r s with
    | some _ => ⟨s.id, s.start, s.cursor + ((passN r s + 1 : Nat) : Int), s.got + 1, s.lost, s.passed + (passN r s : Int), s.filter⟩
    | none => ⟨s.id, s.start, s.cursor + (passN r s : Int), s.got, s.lost, s.passed + (passN r s : Int), s.filter⟩
def noMsg : MsgV := ⟨0, 0, { data := #[] }⟩
def noTold : ToldV := ⟨0, noMsg, 0, 0⟩
def readT (r : RingV) (s : SubV) : ToldV :=
  if goneQ r s > 0 then ⟨2, noMsg, 0, goneQ r s⟩
  else match gotM r s with
    | some m => ⟨1, m, s.cursor + (passN r s : Int), 0⟩
    | none => noTold
def readC (r : RingV) (s : SubV) : Int :=
  if goneQ r s > 0 then 0
  else match gotM r s with
    | some _ => 0
    | none => if r.closed then 6 else 4
theorem take_hit {α : Type} {p : α → Bool} {L : List α} {i : Nat} {m : α} (hn : ∀ j x, j < i → L[j]? = some x → p x = true) (hm : L[i]? = some m) (h : p m = false) : (L.takeWhile p).length = i := by
  induction L generalizing i with
  | nil => simp at hm
  | cons x L ih =>
    cases i with
    | zero => simp only [List.getElem?_cons_zero, Option.some.injEq] at hm; subst hm; simp [List.takeWhile_cons, h]
    | succ i =>
      have h0 := hn 0 x (by omega) rfl
      rw [List.takeWhile_cons, h0]
      simp only [if_true, List.length_cons]
      rw [ih (i := i) (fun j y hj hy => hn (j + 1) y (by omega) (by simpa using hy)) (by simpa using hm)]
theorem take_all {α : Type} {p : α → Bool} {L : List α} (hn : ∀ j x, j < L.length → L[j]? = some x → p x = true) : (L.takeWhile p).length = L.length := by
  induction L with
  | nil => rfl
  | cons x L ih =>
    have h0 := hn 0 x (by simp) rfl
    rw [List.takeWhile_cons, h0]
    simp only [if_true, List.length_cons]
    rw [ih fun j y hj hy => hn (j + 1) y (by simp; omega) (by simpa using hy)]
/-- The first i ahead are passed by. -/
def PassUpto (r : RingV) (s : SubV) (i : Nat) : Prop := ∀ j m, j < i → (aheadL r s)[j]? = some m → leftB s.filter m = false
theorem PassUpto.succ {r : RingV} {s : SubV} {i : Nat} {m : MsgV} (h : PassUpto r s i) (hm : (aheadL r s)[i]? = some m) (hp : leftB s.filter m = false) : PassUpto r s (i + 1) := fun j x hj hx => by
  rcases Nat.lt_or_ge j i with h1 | h1
  · exact h j x h1 hx
  · rw [show j = i by omega, hm] at hx
    cases hx; exact hp
theorem pass_hit {r : RingV} {s : SubV} {i : Nat} {m : MsgV} (h : PassUpto r s i) (hm : (aheadL r s)[i]? = some m) (hp : leftB s.filter m = true) : passN r s = i ∧ gotM r s = some m := by
  have : passN r s = i := take_hit (fun j x hj hx => by rw [h j x hj hx]; rfl) hm (by rw [hp]; rfl)
  exact ⟨this, by rw [gotM, this, hm]⟩
theorem pass_end {r : RingV} {s : SubV} (h : PassUpto r s (aheadL r s).length) : passN r s = (aheadL r s).length ∧ gotM r s = none := by
  have : passN r s = (aheadL r s).length := take_all fun j x hj hx => by rw [h j x hj hx]; rfl
  exact ⟨this, by rw [gotM, this]; exact List.getElem?_eq_none (Nat.le_refl _)⟩
/-- Where its cursor stands. -/
structure AtIs (r : RingV) (s : SubV) : Prop where
  off : s.cursor - (r.sent - r.items.length) = (offN r s : Nat)
  len : ((aheadL r s).length : Int) = r.sent - s.cursor
  fit : offN r s + (aheadL r s).length = r.items.length
theorem ReadIs.stands {r : RingV} (h : ReadIs r) {k : Nat} {s : SubV} (hs : r.subs[k]? = some s) (hg : ¬ goneQ r s > 0) : AtIs r s := by
  have hm := leastI_mem (l := r.sent) (List.mem_of_getElem? hs)
  have hi := h.items
  have h1 := h.sent1
  have hq := h.sub k s hs
  have := hq.start; have := hq.cur1; have := hq.cur2
  have ho : oldestI r ≤ s.cursor := by
    unfold goneQ at hg
    simp only [oldestI]
    repeat' split
    all_goals omega
  have e : s.cursor - (r.sent - r.items.length) = (offN r s : Nat) := by unfold offN; omega
  have hle : offN r s ≤ r.items.length := by omega
  refine ⟨e, ?_, ?_⟩
  · simp only [aheadL, List.length_drop]; omega
  · simp only [aheadL, List.length_drop]; omega
theorem ahead_at {r : RingV} {s : SubV} {i : Nat} {m : MsgV} (h : (aheadL r s)[i]? = some m) : r.items[offN r s + i]? = some m := by
  rw [aheadL, List.getElem?_drop] at h; exact h
theorem ReadIs.msg {r : RingV} (h : ReadIs r) {i : Nat} {m : MsgV} (hm : r.items[i]? = some m) : msgB m = true := List.all_eq_true.1 h.msgs m (List.mem_of_getElem? hm)
/-- What is read, of the k-th; nothing goes yet. -/
def readK (r : RingV) (k : Nat) (s : SubV) : RingV := { r with subs := r.subs.set k (readS r s) }
theorem trim_fitR {r q : RingV} (hI : ReadIs r) (hc : q.cap = r.cap) (hs : r.sent ≤ q.sent) (hi : (q.items.length : Int) = r.items.length + (q.sent - r.sent)) (h : ∀ s ∈ q.subs, ∃ p ∈ r.subs, p.cursor ≤ s.cursor) :
    0 ≤ q.sent - oldestI q ∧ q.sent - oldestI q ≤ q.items.length := by
  have h1 := oldestI_mono hc hs h
  have h2 := oldestI_in (r := q) (by have := hI.sent1; omega) (by rw [hc]; exact hI.cap1)
  have h3 := hI.items
  omega
/-- A ring of which one Sub is turned, and that Sub alone. -/
structure OneFit (r : RingV) (g : List SubV) : Prop where
  ok : okRing ⟨r.cap, r.sent, r.items, r.next, g, r.line, r.grants, r.closed⟩
  f1 : 0 ≤ r.sent - oldestI ⟨r.cap, r.sent, r.items, r.next, g, r.line, r.grants, r.closed⟩
  f2 : r.sent - oldestI ⟨r.cap, r.sent, r.items, r.next, g, r.line, r.grants, r.closed⟩ ≤ r.items.length
theorem one_fit {r : RingV} (hr : okRing r) (hI : ReadIs r) {g : List SubV} {k : Nat} {s q : SubV} (hs : r.subs[k]? = some s) (ht : Turn r.subs g k q) (hc : s.cursor ≤ q.cursor) (hf : q.filter = s.filter) : OneFit r g := by
  have h := trim_fitR (r := r) (q := ⟨r.cap, r.sent, r.items, r.next, g, r.line, r.grants, r.closed⟩) hI rfl (Int.le_refl _) (by simp) (by
    simp only [ht.eq]
    exact subs_set hs hc)
  refine ⟨⟨hr.1, ?_, hr.2.2⟩, h.1, h.2⟩
  simp only [ht.eq]
  exact okSubS_set hs hf hr.2.1
theorem readK_turn {r : RingV} {k : Nat} {s : SubV} {g : List SubV} (h : Turn r.subs g k (readS r s)) : readK r k s = ⟨r.cap, r.sent, r.items, r.next, g, r.line, r.grants, r.closed⟩ := by
  simp only [readK, h.eq]
end Go.Proofs.YtlgdijjkegeccaaGreat
