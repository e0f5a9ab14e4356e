/- Contracts: Send, of the program. -/
import Derived.Test.YtlgdijjkegeccaaFnSd
import Derived.Test.YtlgdijjkegeccaaBvM5
namespace Go.Proofs.Ytlgdijjkegeccaa
open Go Go.RowKit Go.Bv
set_option linter.unusedSimpArgs false
set_option linter.unusedVariables false
set_option maxRecDepth 4000
set_option maxHeartbeats 8000000
/-! The walks that end. -/
theorem sFnSi32F {p q : Prop} (k : q) (h : q → p := by
  first
  | exact shAR 18 (by exact i_S hT [[], [0], [0, 1], [0, 1, 2], [], [0, 1, 2, 3, 4]] [58, 59, 60, 61, 62, 63])
  | exact shAR 17 (by exact i_T hT [[], [0], [], [], [2, 3], [0, 1, 2, 3, 4], [0, 1, 2, 3, 4, 5]] 5 [52, 53, 54, 55, 56])
  | exact i1F
  | fail) : p := h k
theorem wFnSi32_0 {p : Prop} (h : p := by
  have E0 := @encRing.eq_1
  have E1 := @encMsg.eq_1
  have E2 := @encInt.eq_1
  have E3 := @zeroRing.eq_1
  repeat' (first | refine sFnSi32F ?_ | (refine two ?_ ?_; all_goals (intro h; try simp only [Bool.not_eq_true', Bool.not_eq_false', reduceCtorEq] at h)) | fail)
  all_goals (simp only [go_sem, *]; first | done | rfl)) : p := h
theorem wFnSi32_1 {p : Prop} (h : p := by
  have E0 := @encRing.eq_1
  have E1 := @encMsg.eq_1
  have E2 := @zeroRing.eq_1
  refine snd_b hT Try.func32 Try.results32 Try.ntmps32 ?_
  repeat' (first | refine sFnSi32F ?_ | (refine two ?_ ?_; all_goals (intro h; try simp only [Bool.not_eq_true', Bool.not_eq_false', reduceCtorEq] at h)) | fail)
  all_goals (simp only [go_sem, *]; first | done | rfl)) : p := h
-- VIEWS

theorem c_impl_Send (r : RingV) (m : MsgV) {u v : AV} (hu : u = encRing false r) (hv : v = encMsg false m) (hr : okRing r) (hm : okMsg m) (hw : wRing r ≤ 4194304) (l1 : r.line.length ≤ 1048576) (l2 : r.grants.length ≤ 1048576) : Sound P 32 [u, v] (.tup [encRing true (sendR r m), .lst true 1 ((sendL r m).map encInt), .int .i64 (sendC r m)]) := by
  subst hu hv
  have m1 : r.line.length < 4611686018427387904 := by omega
  have m2 : r.grants.length < 4611686018427387904 := by omega
  have l4 : r.line.length ≤ 4194304 := by omega
  have hl : r.subs.length < 4611686018427387904 := hr.2.1.1
  obtain ⟨R, hR⟩ : ∃ R, sendR r m = R := ⟨_, rfl⟩
  obtain ⟨L, hL⟩ : ∃ L, sendL r m = L := ⟨_, rfl⟩
  obtain ⟨c, hC⟩ : ∃ c, sendC r m = c := ⟨_, rfl⟩
  rw [hR, hL, hC]
  rcases (show (ringB r = false ∧ R = r ∧ L = [] ∧ c = 1) ∨ (ringB r = true ∧ r.closed = true ∧ R = r ∧ L = [] ∧ c = 6) ∨ (ringB r = true ∧ r.closed = false ∧ msgB m = false ∧ R = r ∧ L = [] ∧ c = 1) ∨ (ringB r = true ∧ r.closed = false ∧ msgB m = true ∧ (r.sent == 1000000000) = true ∧ R = r ∧ L = [] ∧ c = 2) ∨ (ringB r = true ∧ r.closed = false ∧ msgB m = true ∧ (r.sent == 1000000000) = false ∧ R = trimR (sendR0 r m) ∧ L = toldTo r m r.line.length ∧ c = 0) by
    rw [← hR, ← hL, ← hC]
    cases hB : ringB r <;> cases hcl : r.closed <;> cases hM : msgB m <;> cases hS : r.sent == 1000000000 <;> simp [sendR, sendL, sendC, sendB, hB, hcl, hM, hS]) with ⟨hB, e1, e2, e3⟩ | ⟨hB, hcl, e1, e2, e3⟩ | ⟨hB, hcl, hM, e1, e2, e3⟩ | ⟨hB, hcl, hM, hS, e1, e2, e3⟩ | ⟨hB, hcl, hM, hS, e1, e2, e3⟩
  all_goals (rw [e1, e2, e3]; clear e1 e2 e3 hR hL hC)
  all_goals try (replace hcl := Kept.mk hcl)
  rotate_left 4
  · have hI := ringIs hB
    have hmo : okMsg m := hm
    have h12 := hI.line12
    have h16 := hI.read.len
    have hs2 := hI.sent2
    have hs1 := hI.sent1
    have hsn : r.sent ≠ 1000000000 := by simpa using hS
    have ws : IntKind.i64.wrap (r.sent + 1) = r.sent + 1 := by rw [wrap_small] <;> omega
    have l5 : r.grants.length ≤ 12 := by omega
    have l6 : r.line.length ≤ 12 := by omega
    have l7 : r.items.length ≤ 16 := h16
    obtain ⟨I, hIe⟩ : ∃ I, r.items ++ [m] = I := ⟨_, rfl⟩
    have hIm : r.items.map (encMsg true) ++ [.agg [.int .i64 m.kind, .int .i64 m.num, .str m.text]] = I.map (encMsg true) := by rw [← hIe, List.map_append]; rfl
    have hst : SendAt r m 0 r.subs := send_zero hr m
    have hfin : ∀ F, SendAt r m r.line.length F → F = sendTo r m r.line.length ∧ _ := fun F h => ⟨h.eq, send_fit hr hI hm h (stayTo r m r.line.length) (r.grants ++ toldTo r m r.line.length)
      ⟨by have := stayTo_len r m r.line.length; omega, fun _ _ => trivial⟩ ⟨by have := toldTo_len r m r.line.length; simp only [List.length_append]; omega, fun _ _ => trivial⟩⟩
    rw [hIe] at hfin
    have hkf := Kept.mk hfin
    have hRR : sendR0 r m = ⟨r.cap, r.sent + 1, I, r.next, sendTo r m r.line.length, stayTo r m r.line.length, r.grants ++ toldTo r m r.line.length, r.closed⟩ := by rw [sendR0, hIe]
    have hSd := Kept.mk (fun i (_ : i < r.line.length) => hI.stands (List.getElem?_eq_getElem ‹i < r.line.length›))
    have hKI := Kept.mk hI
    clear hfin hsn hI h12 h16 hs1 hs2
    refine snd_b hT Try.func32 Try.results32 Try.ntmps32 ?_
    (all_goals (have E0 := @encRing.eq_1))
    (all_goals (have E1 := @encMsg.eq_1))
    (all_goals (have E2 := @zeroRing.eq_1))
    repeat' (first | refine sFnSi32F ?_ | (refine two ?_ ?_; all_goals (intro h; try simp only [Bool.not_eq_true', Bool.not_eq_false', reduceCtorEq] at h)) | fail)
    all_goals (try clear E0 E1 E2)
    refine aw_loop [9, 10, 11, 12, 13, 14, 15, 16, 17, 18, 19, 20, 21, 22, 23, 24, 25, 26, 27, 28, 29, 30, 31, 32, 33, 34, 35, 36, 37, 38, 39, 40, 41, 42, 43, 44, 45, 49, 50, 51, 52, 53, 54, 55, 56, 57, 58, 59, 60, 61, 62, 63, 64, 65, 66, 67, 68, 69, 70, 71, 72, 73, 74, 75, 76, 77, 78, 79, 80, 81, 82, 83, 84, 85, 86, 87, 88, 89, 90, 91, 92, 93, 94, 95, 96] (fun n S => ∃ (i : Nat) (F : List SubV), n = r.line.length - i ∧ i ≤ r.line.length ∧ SendAt r m i F ∧ S = [encRing false r, encMsg false m, .box (encRing false r), .box (encMsg false m), .box zeroRing, .lst true 1 [], .int .i64 0, .box (.agg [.int .i64 r.cap, .int .i64 (r.sent + 1), .lst true 3 (I.map (encMsg true)), .int .i64 r.next, .lst true 7 (F.map (encSub true)), .lst true 1 ((stayTo r m i).map encInt), .lst true 1 (r.grants.map encInt), .bool r.closed]), .lst true 1 ((toldTo r m i).map encInt), .undef, .undef, .undef, .undef, .undef, .undef, .undef, .undef, .undef, .undef, .undef, .undef, .undef, .undef, .undef, .undef, .undef, .undef, .undef, .undef, .undef, .undef, .undef, .undef, .undef, .undef, .undef, .undef, .undef, .undef, .undef, .undef, .undef, .undef, .undef, .undef, .undef, .lst false 1 (r.line.map encInt), .int .i64 r.line.length, .int .i64 i, .undef, .undef, .undef, .undef, .undef, .undef, .undef, .undef, .undef, .undef, .undef, .undef, .undef, .undef, .undef, .undef, .undef, .undef, .undef, .undef, .undef, .undef, .undef, .undef, .undef, .undef, .undef, .undef, .undef, .undef, .undef, .undef, .undef, .undef, .undef, .undef, .undef, .undef, .undef, .undef, .undef, .undef, .undef, .undef, .undef, .undef, .undef, .undef]) r.line.length ?_ ?_
    · refine ⟨0, r.subs, by simp, by omega, hst, ?_⟩
      clear hst hkf hSd hKI
      simp only [toldTo, stayTo, List.take_zero, List.filter_nil, List.map_nil]
      (rw [clr_eq]; rotate_left; rfl; simp only [keepB, go_sem, Nat.reduceBEq, Nat.reduceAdd, cond_true, cond_false, *]; simp only [clrG, Nat.reduceBEq, Nat.reduceAdd, cond_true, cond_false])
      first | done | rfl
    rintro n S ⟨i, F, hn, hi, hF, rfl⟩
    have hwi : IntKind.i64.wrap ((i : Int) + 1) = ((i + 1 : Nat) : Int) := by rw [wrap_small] <;> omega
    by_cases hlt : i < r.line.length
    · have hd : decide ((i : Int) < (r.line.length : Int)) = true := by simp [hlt]
      obtain ⟨id, hid⟩ : ∃ id, r.line[i]? = some id := ⟨r.line[i], List.getElem?_eq_getElem hlt⟩
      obtain ⟨k, s, hk, hkl, hks, hsi, hsc⟩ := hKI.out.stands hid
      have hFk : F[k]? = some s := by
        have := hF.same i id (Nat.le_refl _) hid
        rw [hk, Int.toNat_natCast, hks] at this
        exact this
      have hFl : F.length = r.subs.length := hF.len
      have hff : filterB s.filter = true := (hKI.out.at hks).filter
      have hk0 : (0 : Int) ≤ (k : Int) := by omega
      have hk1 : (k : Int) < (r.subs.length : Int) := by omega
      have hta := tells_at (m := m) hk hks
      cases ht : leftB s.filter m
      · obtain ⟨g1, t1⟩ := turn ⟨s.id, s.start, s.cursor + 1, s.got, s.lost, s.passed, s.filter⟩ hFk
        obtain ⟨g2, t2⟩ := turn (upS s) t1.got
        have hN := hF.stay hKI.out hid hk hks hsi ht (t1.again t2)
        have hq := hKI.out.at hks
        have := hq.cur1; have := hq.cur2; have := hq.pass1; have := hq.pass2; have := hq.start; have := hKI.out.sent2
        have w1 : IntKind.i64.wrap (s.cursor + 1) = s.cursor + 1 := by rw [wrap_small] <;> omega
        have w2 : IntKind.i64.wrap (s.passed + 1) = s.passed + 1 := by rw [wrap_small] <;> omega
        have e1 : (F.map (encSub true)).set k (.agg [.int .i64 s.id, .int .i64 s.start, .int .i64 (s.cursor + 1), .int .i64 s.got, .int .i64 s.lost, .int .i64 s.passed, .lst true 3 (s.filter.map encT)]) = g1.map (encSub true) := t1.map true
        have e2 : (g1.map (encSub true)).set k (.agg [.int .i64 s.id, .int .i64 s.start, .int .i64 (s.cursor + 1), .int .i64 s.got, .int .i64 s.lost, .int .i64 (s.passed + 1), .lst true 3 (s.filter.map encT)]) = g2.map (encSub true) := t2.map true
        have a1 := t1.got
        have hsl := stayTo_len r m i
        have e3 : (stayTo r m i).map encInt ++ [.int .i64 id] = (stayTo r m (i + 1)).map encInt := by rw [stayTo_succ hid, hta, ht]; simp only [Bool.false_eq_true, if_false, List.map_append]; rfl
        have e4 : toldTo r m (i + 1) = toldTo r m i := by rw [toldTo_succ hid, hta, ht]; rfl
        have hnext := Kept.mk (show r.line.length - (i + 1) < n ∧ i + 1 ≤ r.line.length ∧ SendAt r m (i + 1) g2 from ⟨by omega, by omega, hN⟩)
        clear hN hF t1 t2 hq hst hkf hSd hta hsi hsc hn hi
        (all_goals (have E0 := @encRing.eq_1))
        (all_goals (have E1 := @encMsg.eq_1))
        (all_goals (have E2 := @encSub.eq_1))
        (all_goals (have E3 := @encInt.eq_1))
        (all_goals (have E4 := @zeroRing.eq_1))
        repeat' (first | refine sFnSi32F ?_ | (refine two ?_ ?_; all_goals (intro h; try simp only [Bool.not_eq_true', Bool.not_eq_false', reduceCtorEq] at h)) | fail)
        all_goals (try clear E0 E1 E2 E3 E4)
        all_goals (
          refine ⟨r.line.length - (i + 1), hnext.out.1, i + 1, g2, rfl, hnext.out.2.1, hnext.out.2.2, ?_⟩
          rw [e4]
          clear hnext hKI hcl
          (rw [clr_eq]; rotate_left; rfl; simp only [keepB, go_sem, Nat.reduceBEq, Nat.reduceAdd, cond_true, cond_false, *]; simp only [clrG, Nat.reduceBEq, Nat.reduceAdd, cond_true, cond_false])
          first | done | rfl)
      · have hN := hF.told hid hk hks ht
        have hsl := toldTo_len r m i
        have e3 : (toldTo r m i).map encInt ++ [.int .i64 id] = (toldTo r m (i + 1)).map encInt := by rw [toldTo_succ hid, hta, ht]; simp only [if_true, List.map_append]; rfl
        have e4 : stayTo r m (i + 1) = stayTo r m i := by rw [stayTo_succ hid, hta, ht]; rfl
        have hnext := Kept.mk (show r.line.length - (i + 1) < n ∧ i + 1 ≤ r.line.length ∧ SendAt r m (i + 1) F from ⟨by omega, by omega, hN⟩)
        clear hN hF hst hkf hSd hta hsi hsc hn hi
        (all_goals (have E0 := @encRing.eq_1))
        (all_goals (have E1 := @encMsg.eq_1))
        (all_goals (have E2 := @encSub.eq_1))
        (all_goals (have E3 := @encInt.eq_1))
        (all_goals (have E4 := @zeroRing.eq_1))
        repeat' (first | refine sFnSi32F ?_ | (refine two ?_ ?_; all_goals (intro h; try simp only [Bool.not_eq_true', Bool.not_eq_false', reduceCtorEq] at h)) | fail)
        all_goals (try clear E0 E1 E2 E3 E4)
        all_goals (
          refine ⟨r.line.length - (i + 1), hnext.out.1, i + 1, F, rfl, hnext.out.2.1, hnext.out.2.2, ?_⟩
          rw [e4]
          clear hnext hKI hcl
          (rw [clr_eq]; rotate_left; rfl; simp only [keepB, go_sem, Nat.reduceBEq, Nat.reduceAdd, cond_true, cond_false, *]; simp only [clrG, Nat.reduceBEq, Nat.reduceAdd, cond_true, cond_false])
          first | done | rfl)
    · have hd : decide ((i : Int) < (r.line.length : Int)) = false := by simp; omega
      have hie : i = r.line.length := by omega
      subst hie
      obtain ⟨hFe, ho, f1, f2⟩ := hkf.out F hF
      have hb1 : -9223372036854775808 ≤ r.sent + 1 - r.cap := by have := hKI.out.cap2; have := hKI.out.sent1; omega
      have hb2 : r.sent + 1 - r.cap ≤ 9223372036854775807 := by have := hKI.out.cap1; have := hKI.out.sent2; omega
      have hil : I.length ≤ 4194304 := by rw [← hIe]; simp only [List.length_append, List.length_cons, List.length_nil]; omega
      have htl := toldTo_len r m r.line.length
      have e3 : r.grants.map encInt ++ (toldTo r m r.line.length).map encInt = (r.grants ++ toldTo r m r.line.length).map encInt := by rw [List.map_append]
      rw [hRR, ← hFe]
      clear hF hFe hst hkf hSd hn hi hRR hlt
      exact wFnSi32_0
  all_goals (
    exact wFnSi32_1)
noncomputable abbrev ic_impl_Send := Con.mk (P := P) (f := 32) Try.call32 @c_impl_Send
attribute [instance] ic_impl_Send
end Go.Proofs.Ytlgdijjkegeccaa
