/- Contracts: one reading, of the program, in the ring itself. -/
import Derived.Test.YtlgdijjkegeccaaGreatKE
import Derived.Test.YtlgdijjkegeccaaGreatKR
import Derived.Test.YtlgdijjkegeccaaGreatBvM5
namespace Go.Proofs.YtlgdijjkegeccaaGreat
open Go Go.RowKit Go.Bv
set_option linter.unusedSimpArgs false
set_option linter.unusedVariables false
set_option maxRecDepth 4000
set_option maxHeartbeats 8000000
/-! The walks that end. -/
theorem sFnRi65 {p q : Prop} (k : q) (h : q → p := by
  first
  | exact shAR 1 (by exact i_S hT [[], [0], [0, 1], [0, 1, 2], [], [4], [4, 5], [], [4, 5, 6, 7], [0, 1, 2, 3, 4, 5, 6, 7, 8], [0, 1, 2, 3, 4, 5, 6, 7, 8, 9]] [11, 12, 13, 14, 15, 16, 17, 18, 19, 20, 6])
  | exact shAR 2 (by exact i_S hT [[], [0], [0, 1], [0, 1, 2], [], [4], [4, 5], [4, 5, 6], [0, 1, 2, 3, 4, 5, 6, 7], [], [9], [9, 10], [9, 10, 11], [0, 1, 2, 3, 4, 5, 6, 7, 8, 9, 10, 11, 12], [0, 1, 2, 3, 4, 5, 6, 7, 8, 9, 10, 11, 12, 13]] [21, 22, 23, 24, 25, 26, 27, 28, 29, 30, 31, 32, 33, 34, 7])
  | exact shAR 8 (by exact i_S hT [[], [0], [0, 1], [0, 1, 2], [], [4], [4, 5], [4, 5, 6], [4, 5, 6, 7], [0, 1, 2, 3, 4, 5, 6, 7, 8], [0, 1, 2, 3, 4, 5, 6, 7, 8, 9]] [57, 58, 59, 60, 61, 62, 63, 64, 65, 66, 8])
  | exact shAR 9 (by exact i_S hT [[], [0], [0, 1], [0, 1, 2], [], [4], [4, 5], [4, 5, 6], [0, 1, 2, 3, 4, 5, 6, 7]] [67, 68, 69, 70, 71, 72, 73, 74, 75])
  | exact shAR 12 (by exact i_S hT [[], [0], [0, 1], [0, 1, 2], [], [0, 1, 2, 3, 4]] [95, 96, 97, 98, 99, 100])
  | exact shAR 10 (by exact i_W hT [[], [0], [0, 1], [0, 1, 2], [], [4], [4, 5], [4, 5, 6], [], [4, 5, 6, 7, 8], [0, 1, 2, 3, 4, 5, 6, 7, 8, 9], [0, 1, 2, 3, 4, 5, 6, 7, 8, 9, 10], [], [0, 1, 2, 3, 4, 5, 6, 7, 8, 9, 10, 11, 12]] [[(76, _)], [(77, _)], [(78, _)], [(79, _)], [(80, _)], [(81, _)], [(82, _)], [(83, _)], [(84, _)], [(85, _)], [(86, _)], [(87, _)], [(9, _)], [(9, _)]] (by decide +kernel) (by refine st_o [1, 2, 3, 10, 11, 13] ?_; refine st_o [2, 3, 10, 11, 13] ?_; refine st_o [3, 10, 11, 13] ?_; refine st_o [10, 11, 13] ?_; refine st_o [5, 6, 7, 9, 10, 11, 13] ?_; refine st_o [6, 7, 9, 10, 11, 13] ?_; refine st_o [7, 9, 10, 11, 13] ?_; refine st_o [9, 10, 11, 13] ?_; refine st_o [9, 10, 11, 13] ?_; refine st_o [10, 11, 13] ?_; refine st_o [11, 13] ?_; refine st_o [13] ?_; refine st_o [13] ?_; refine st_o [] ?_; exact steps_nil))
  | exact shAR 14 (by exact i_W hT [[], [], [1], [1, 2], [1, 2, 3], [1, 2, 3, 4], [0, 1, 2, 3, 4, 5], [], [0, 1, 2, 3, 4, 5, 6, 7]] [[(108, _)], [(109, _)], [(110, _)], [(111, _)], [(112, _)], [(113, _)], [(114, _)], [(10, _)], [(10, _)]] (by decide +kernel) (by refine st_o [6, 8] ?_; refine st_o [2, 3, 4, 5, 6, 8] ?_; refine st_o [3, 4, 5, 6, 8] ?_; refine st_o [4, 5, 6, 8] ?_; refine st_o [5, 6, 8] ?_; refine st_o [6, 8] ?_; refine st_o [8] ?_; refine st_o [8] ?_; refine st_o [] ?_; exact steps_nil))
  | exact i1
  | fail) : p := h k
theorem wFnRi65_0 {p : Prop} (h : p := by
  have E0 := @encRing.eq_1
  have E1 := @encSub.eq_1
  have E2 := @encMsg.eq_1
  have E3 := @zeroTold.eq_1
  refine snd_B hT Tryz.func65 Tryz.results65 Tryz.ntmps65 ?_
  repeat' (first | refine sFnRi65 ?_ | (refine two ?_ ?_; all_goals (intro h; try simp only [Bool.not_eq_true', Bool.not_eq_false', reduceCtorEq] at h)) | fail)
  all_goals (simp only [go_sem, *]; first | done | rfl)) : p := h
theorem wFnRi65_1 {p : Prop} (h : p := by
  have E0 := @encRing.eq_1
  have E1 := @encSub.eq_1
  have E2 := @encMsg.eq_1
  have E3 := @zeroTold.eq_1
  repeat' (first | refine sFnRi65 ?_ | (refine two ?_ ?_; all_goals (intro h; try simp only [Bool.not_eq_true', Bool.not_eq_false', reduceCtorEq] at h)) | fail)
  all_goals (simp only [go_sem, *]; first | done | rfl)) : p := h

theorem turn_self {f : List SubV} {k : Nat} {s : SubV} (h : f[k]? = some s) : Turn f f k s := by
  refine ⟨h, rfl, List.ext_getElem? fun j => ?_⟩
  by_cases e : j = k
  · subst e; rw [List.getElem?_set_self (List.getElem?_eq_some_iff.1 h).1, h]
  · rw [List.getElem?_set_ne (by omega)]
-- LENTB b_impl_Ring_read
theorem read0_impl (r : RingV) (id : Int) (k : Nat) (s : SubV) {u : AV} (hu : u = .box (encRing true r)) (hr : okRing r) (hI : ReadIs r) (hk : atI r.subs id = k) (hks : r.subs[k]? = some s) :
    SoundB P 65 [u, .int .i64 id] 0 (.tup [encTold false (readT r s), .int .i64 (readC r s)]) (.box (encRing true (trimR (readK r k s)))) := by
  subst hu
  have hs := hI.sub k s hks
  have hl16 := hI.len
  have hl4 : r.items.length ≤ 4194304 := by omega
  have hkl := (List.getElem?_eq_some_iff.1 hks).1
  have hk0 : (0 : Int) ≤ (k : Int) := by omega
  have hk1 : (k : Int) < (r.subs.length : Int) := by omega
  have := hI.cap1; have := hI.cap2; have := hI.sent1; have := hI.sent2; have := hs.start; have := hs.cur1; have := hs.cur2; have := hs.got1; have := hs.got2; have := hs.lost1; have := hs.lost2; have := hs.pass1; have := hs.pass2
  have hb1 : -9223372036854775808 ≤ r.sent - r.cap := by omega
  have hb2 : r.sent - r.cap ≤ 9223372036854775807 := by omega
  have w1 : IntKind.i64.wrap (r.sent - r.cap) = r.sent - r.cap := by rw [wrap_small] <;> omega
  by_cases hg : goneQ r s > 0
  · obtain ⟨C, hC⟩ : ∃ C, s.cursor + goneQ r s = C := ⟨_, rfl⟩
    obtain ⟨L, hL⟩ : ∃ L, s.lost + goneQ r s = L := ⟨_, rfl⟩
    have hS : readS r s = ⟨s.id, s.start, C, s.got, L, s.passed, s.filter⟩ := by simp only [readS, if_pos hg, hC, hL]
    have hT : readT r s = ⟨2, noMsg, 0, goneQ r s⟩ := by simp only [readT, if_pos hg]
    have hc : readC r s = 0 := by simp only [readC, if_pos hg]
    obtain ⟨g1, t1⟩ := turn ⟨s.id, s.start, C, s.got, s.lost, s.passed, s.filter⟩ hks
    obtain ⟨g2, t2⟩ := turn ⟨s.id, s.start, C, s.got, L, s.passed, s.filter⟩ t1.got
    have t := t1.again t2
    rw [← hS] at t
    have hF := one_fit hr hI hks t (by rw [hS]; simp only; omega) (by rw [hS])
    rw [readK_turn t, hT, hc]
    obtain ⟨G, hG⟩ : ∃ G, goneQ r s = G := ⟨_, rfl⟩
    rw [hG] at hC hL hg ⊢
    unfold goneQ at hG
    have w2 : IntKind.i64.wrap (r.sent - r.cap - s.cursor) = G := by rw [hG, wrap_small] <;> omega
    have w3 : IntKind.i64.wrap (s.cursor + G) = C := by rw [hC, wrap_small] <;> omega
    have w4 : IntKind.i64.wrap (s.lost + G) = L := by rw [hL, wrap_small] <;> omega
    have hd : decide (G > 0) = true := decide_eq_true hg
    have e1 : (r.subs.map (encSub true)).set k (.agg [.int .i64 s.id, .int .i64 s.start, .int .i64 C, .int .i64 s.got, .int .i64 s.lost, .int .i64 s.passed, .lst true 3 (s.filter.map encT)]) = g1.map (encSub true) := t1.map true
    have e2 : (g1.map (encSub true)).set k (.agg [.int .i64 s.id, .int .i64 s.start, .int .i64 C, .int .i64 s.got, .int .i64 L, .int .i64 s.passed, .lst true 3 (s.filter.map encT)]) = g2.map (encSub true) := t2.map true
    have a1 := t1.got
    have a2 := t2.got
    have ho := hF.ok
    have f1 := hF.f1
    have f2 := hF.f2
    clear hS hT hc t t1 t2 hF hI hs hC hL hG hg
    exact wFnRi65_0
  have hA := hI.stands hks hg
  obtain ⟨G, hG⟩ : ∃ G, goneQ r s = G := ⟨_, rfl⟩
  have hG' := hG
  unfold goneQ at hG'
  have w2 : IntKind.i64.wrap (r.sent - r.cap - s.cursor) = G := by rw [hG', wrap_small] <;> omega
  have hd : decide (G > 0) = false := decide_eq_false (by omega)
  have w3 : IntKind.i64.wrap (r.sent - (r.items.length : Int)) = r.sent - (r.items.length : Int) := by rw [wrap_small] <;> omega
  clear hG'
  refine snd_B hT Tryz.func65 Tryz.results65 Tryz.ntmps65 ?_
  (all_goals (have E0 := @encRing.eq_1))
  (all_goals (have E1 := @encSub.eq_1))
  (all_goals (have E2 := @encMsg.eq_1))
  (all_goals (have E3 := @zeroTold.eq_1))
  repeat' (first | refine sFnRi65 ?_ | (refine two ?_ ?_; all_goals (intro h; try simp only [Bool.not_eq_true', Bool.not_eq_false', reduceCtorEq] at h)) | fail)
  all_goals (try clear E0 E1 E2 E3)
  refine aw_loop [2, 3, 9, 10, 11, 12, 13, 14, 15, 16, 17, 18, 19, 20, 21, 22, 23, 24, 25, 26, 27, 28, 29, 30, 31, 32, 33, 34, 35, 36, 37, 38, 39, 40, 41, 42, 43, 44, 45, 46, 47, 48, 49, 50, 51, 52, 53, 54, 55, 56, 57, 58, 59, 60, 61, 62, 63, 64, 65, 66, 67, 68, 69, 70, 71, 72, 73, 74, 75, 76, 77, 78, 79, 80, 81, 82, 83, 84, 85, 86, 87, 88, 89, 90, 91, 92, 93, 94, 95, 96, 97, 98, 99, 100, 101, 102, 103, 104, 105, 106, 107, 108, 109, 110, 111, 112, 113, 114, 115, 116, 117, 118, 119, 120, 121, 122, 123, 124, 125, 126, 127, 128, 129, 130, 131, 132] (fun n S => ∃ (i : Nat) (g : List SubV), n = (aheadL r s).length - i ∧ i ≤ (aheadL r s).length ∧ PassUpto r s i ∧ Turn r.subs g k ⟨s.id, s.start, s.cursor + (i : Int), s.got, s.lost, s.passed + (i : Int), s.filter⟩ ∧ S = [.box (.agg [.int .i64 r.cap, .int .i64 r.sent, .lst true 3 (r.items.map (encMsg true)), .int .i64 r.next, .lst true 7 (g.map (encSub true)), .lst true 1 (r.line.map encInt), .lst true 1 (r.grants.map encInt), .bool r.closed]), .int .i64 id, .undef, .undef, .box zeroTold, .int .i64 0, .at 0 [4, k], .int .i64 G, .int .i64 (r.sent - (r.items.length : Int)), .undef, .undef, .undef, .undef, .undef, .undef, .undef, .undef, .undef, .undef, .undef, .undef, .undef, .undef, .undef, .undef, .undef, .undef, .undef, .undef, .undef, .undef, .undef, .undef, .undef, .undef, .undef, .undef, .undef, .undef, .undef, .undef, .undef, .undef, .undef, .undef, .undef, .undef, .undef, .undef, .undef, .undef, .undef, .undef, .undef, .undef, .undef, .undef, .undef, .undef, .undef, .undef, .undef, .undef, .undef, .undef, .undef, .undef, .undef, .undef, .undef, .undef, .undef, .undef, .undef, .undef, .undef, .undef, .undef, .undef, .undef, .undef, .undef, .undef, .undef, .undef, .undef, .undef, .undef, .undef, .undef, .undef, .undef, .undef, .undef, .undef, .undef, .undef, .undef, .undef, .undef, .undef, .undef, .undef, .undef, .undef, .undef, .undef, .undef, .undef, .undef, .undef, .undef, .undef, .undef, .undef, .undef, .undef, .undef, .undef, .undef, .undef, .undef, .undef, .undef, .undef, .undef, .undef, .undef, .undef, .undef, .undef, .undef, .undef]) (aheadL r s).length ?_ ?_
  · refine ⟨0, r.subs, by simp, by omega, fun j m hj => by omega, ?_, ?_⟩
    · have := turn_self hks
      simpa using this
    (rw [clr_eq]; rotate_left; rfl; simp only [keepB, go_sem, Nat.reduceBEq, Nat.reduceAdd, cond_true, cond_false, *]; simp only [clrG, Nat.reduceBEq, Nat.reduceAdd, cond_true, cond_false])
    first | done | rfl
  rintro n S ⟨i, g, hn, hi, hpu, ht, rfl⟩
  have hal := hA.len
  have hof := hA.off
  have hfi := hA.fit
  have a0 := ht.got
  have hgl := ht.len
  by_cases hlt : i < (aheadL r s).length
  · have hdl : decide (s.cursor + (i : Int) < r.sent) = true := decide_eq_true (by omega)
    obtain ⟨m, hm⟩ : ∃ m, (aheadL r s)[i]? = some m := ⟨(aheadL r s)[i], List.getElem?_eq_getElem _⟩
    have hmx := ahead_at hm
    have hmb := hI.msg hmx
    have hff := hs.filter
    obtain ⟨x, hx⟩ : ∃ x, offN r s + i = x := ⟨_, rfl⟩
    rw [hx] at hmx
    have wx : IntKind.i64.wrap (s.cursor + (i : Int) - (r.sent - (r.items.length : Int))) = (x : Int) := by rw [wrap_small] <;> omega
    have hx0 : (0 : Int) ≤ (x : Int) := by omega
    have hx1 : (x : Int) < (r.items.length : Int) := by omega
    have wc : IntKind.i64.wrap (s.cursor + (i : Int) + 1) = s.cursor + ((i + 1 : Nat) : Int) := by rw [wrap_small] <;> omega
    obtain ⟨g1, t1⟩ := turn ⟨s.id, s.start, s.cursor + ((i + 1 : Nat) : Int), s.got, s.lost, s.passed + (i : Int), s.filter⟩ a0
    have e1 : (g.map (encSub true)).set k (.agg [.int .i64 s.id, .int .i64 s.start, .int .i64 (s.cursor + ((i + 1 : Nat) : Int)), .int .i64 s.got, .int .i64 s.lost, .int .i64 (s.passed + (i : Int)), .lst true 3 (s.filter.map encT)]) = g1.map (encSub true) := t1.map true
    have a1 := t1.got
    cases hp : leftB s.filter m
    · have wp : IntKind.i64.wrap (s.passed + (i : Int) + 1) = s.passed + ((i + 1 : Nat) : Int) := by rw [wrap_small] <;> omega
      obtain ⟨g2, t2⟩ := turn ⟨s.id, s.start, s.cursor + ((i + 1 : Nat) : Int), s.got, s.lost, s.passed + ((i + 1 : Nat) : Int), s.filter⟩ a1
      have e2 : (g1.map (encSub true)).set k (.agg [.int .i64 s.id, .int .i64 s.start, .int .i64 (s.cursor + ((i + 1 : Nat) : Int)), .int .i64 s.got, .int .i64 s.lost, .int .i64 (s.passed + ((i + 1 : Nat) : Int)), .lst true 3 (s.filter.map encT)]) = g2.map (encSub true) := t2.map true
      have a2 := t2.got
      have hnext : ∀ n', n' = (aheadL r s).length - (i + 1) → n' < n ∧ PassUpto r s (i + 1) ∧ Turn r.subs g2 k ⟨s.id, s.start, s.cursor + ((i + 1 : Nat) : Int), s.got, s.lost, s.passed + ((i + 1 : Nat) : Int), s.filter⟩ := fun n' e => ⟨by omega, hpu.succ hm hp, ht.again (t1.again t2)⟩
      have hK := Kept.mk hnext
      clear hnext hA hI hs hpu ht t1 t2 hm hx hn hks hk hG hg
      (all_goals (have E0 := @encRing.eq_1))
      (all_goals (have E1 := @encSub.eq_1))
      (all_goals (have E2 := @encMsg.eq_1))
      (all_goals (have E3 := @zeroTold.eq_1))
      repeat' (first | refine sFnRi65 ?_ | (refine two ?_ ?_; all_goals (intro h; try simp only [Bool.not_eq_true', Bool.not_eq_false', reduceCtorEq] at h)) | fail)
      all_goals (try clear E0 E1 E2 E3)
      all_goals (
        refine ⟨(aheadL r s).length - (i + 1), (hK.out _ rfl).1, i + 1, g2, rfl, by omega, (hK.out _ rfl).2.1, (hK.out _ rfl).2.2, ?_⟩
        clear hK
        (rw [clr_eq]; rotate_left; rfl; simp only [keepB, go_sem, Nat.reduceBEq, Nat.reduceAdd, cond_true, cond_false, *]; simp only [clrG, Nat.reduceBEq, Nat.reduceAdd, cond_true, cond_false])
        first | done | rfl)
    · obtain ⟨p1, p2⟩ := pass_hit hpu hm hp
      have wg : IntKind.i64.wrap (s.got + 1) = s.got + 1 := by rw [wrap_small] <;> omega
      have wi : IntKind.i64.wrap (s.cursor + ((i + 1 : Nat) : Int) - 1) = s.cursor + (i : Int) := by rw [wrap_small] <;> omega
      obtain ⟨g2, t2⟩ := turn ⟨s.id, s.start, s.cursor + ((i + 1 : Nat) : Int), s.got + 1, s.lost, s.passed + (i : Int), s.filter⟩ a1
      have e2 : (g1.map (encSub true)).set k (.agg [.int .i64 s.id, .int .i64 s.start, .int .i64 (s.cursor + ((i + 1 : Nat) : Int)), .int .i64 (s.got + 1), .int .i64 s.lost, .int .i64 (s.passed + (i : Int)), .lst true 3 (s.filter.map encT)]) = g2.map (encSub true) := t2.map true
      have a2 := t2.got
      have hS : readS r s = ⟨s.id, s.start, s.cursor + ((i + 1 : Nat) : Int), s.got + 1, s.lost, s.passed + (i : Int), s.filter⟩ := by simp only [readS, if_neg hg, p1, p2]
      have hT : readT r s = ⟨1, m, s.cursor + (i : Int), 0⟩ := by simp only [readT, if_neg hg, p1, p2]
      have hc : readC r s = 0 := by simp only [readC, if_neg hg, p2]
      have t := ht.again (t1.again t2)
      rw [← hS] at t
      have hF := one_fit hr hI hks t (by rw [hS]; simp only; omega) (by rw [hS])
      have ho := hF.ok
      have f1 := hF.f1
      have f2 := hF.f2
      rw [readK_turn t, hT, hc]
      clear hA hI hs hpu ht t1 t2 t hm hx hn hks hk hG hg p1 p2 hS hT hc hF
      exact wFnRi65_1
  · have hdl : decide (s.cursor + (i : Int) < r.sent) = false := decide_eq_false (by omega)
    have hie : i = (aheadL r s).length := by omega
    obtain ⟨p1, p2⟩ := pass_end (by rw [← hie]; exact hpu)
    rw [← hie] at p1
    have hS : readS r s = ⟨s.id, s.start, s.cursor + (i : Int), s.got, s.lost, s.passed + (i : Int), s.filter⟩ := by simp only [readS, if_neg hg, p1, p2]
    have hT : readT r s = noTold := by simp only [readT, if_neg hg, p2]
    have t := ht
    rw [← hS] at t
    have hF := one_fit hr hI hks t (by rw [hS]; simp only; omega) (by rw [hS])
    have ho := hF.ok
    have f1 := hF.f1
    have f2 := hF.f2
    rw [readK_turn t, hT]
    rcases (by cases h : r.closed with
      | false => exact .inl ⟨rfl⟩
      | true => exact .inr ⟨rfl⟩ : Kept (r.closed = false) ∨ Kept (r.closed = true)) with hcl | hcl
    · have hc : readC r s = 4 := by simp only [readC, if_neg hg, p2, hcl.out]; rfl
      have hcc : (trimR ⟨r.cap, r.sent, r.items, r.next, g, r.line, r.grants, r.closed⟩).closed = false := hcl.out
      rw [hc]
      clear hA hI hs hpu ht t hn hks hk hG hg p1 p2 hS hT hc hF hie hcl
      (all_goals (have E0 := @encRing.eq_1))
      (all_goals (have E1 := @encSub.eq_1))
      (all_goals (have E2 := @encMsg.eq_1))
      (all_goals (have E3 := @zeroTold.eq_1))
      repeat' (first | refine sFnRi65 ?_ | (refine two ?_ ?_; all_goals (intro h; try simp only [Bool.not_eq_true', Bool.not_eq_false', reduceCtorEq] at h)) | fail)
      all_goals (try clear E0 E1 E2 E3)
      all_goals ((simp only [go_sem, *]); simp only [encRing, hcc]; first | done | rfl)
    · have hc : readC r s = 6 := by simp only [readC, if_neg hg, p2, hcl.out]; rfl
      have hcc : (trimR ⟨r.cap, r.sent, r.items, r.next, g, r.line, r.grants, r.closed⟩).closed = true := hcl.out
      rw [hc]
      clear hA hI hs hpu ht t hn hks hk hG hg p1 p2 hS hT hc hF hie hcl
      (all_goals (have E0 := @encRing.eq_1))
      (all_goals (have E1 := @encSub.eq_1))
      (all_goals (have E2 := @encMsg.eq_1))
      (all_goals (have E3 := @zeroTold.eq_1))
      repeat' (first | refine sFnRi65 ?_ | (refine two ?_ ?_; all_goals (intro h; try simp only [Bool.not_eq_true', Bool.not_eq_false', reduceCtorEq] at h)) | fail)
      all_goals (try clear E0 E1 E2 E3)
      all_goals ((simp only [go_sem, *]); simp only [encRing, hcc]; first | done | rfl)
theorem b_impl_Ring_read (cap sent : Int) (items : List MsgV) (next : Int) (subs : List SubV) (line grants : List Int) (closed : Bool) (id : Int) (k : Nat) (s : SubV) {u : AV}
    (hu : u = .box (.agg [.int .i64 cap, .int .i64 sent, .lst true 3 (items.map (encMsg true)), .int .i64 next, .lst true 7 (subs.map (encSub true)), .lst true 1 (line.map encInt), .lst true 1 (grants.map encInt), .bool closed]))
    (hr : okRing ⟨cap, sent, items, next, subs, line, grants, closed⟩) (hI : ReadIs ⟨cap, sent, items, next, subs, line, grants, closed⟩) (hk : atI subs id = k) (hks : subs[k]? = some s) :
    SoundB P 65 [u, .int .i64 id] 0 (.tup [encTold false (readT ⟨cap, sent, items, next, subs, line, grants, closed⟩ s), .int .i64 (readC ⟨cap, sent, items, next, subs, line, grants, closed⟩ s)]) (.box (encRing true (trimR (readK ⟨cap, sent, items, next, subs, line, grants, closed⟩ k s)))) :=
  read0_impl ⟨cap, sent, items, next, subs, line, grants, closed⟩ id k s hu hr hI hk hks
noncomputable abbrev ib_impl_Ring_read := ConB.mk (P := P) (f := 65) Tryz.call65 @b_impl_Ring_read
attribute [instance] ib_impl_Ring_read
end Go.Proofs.YtlgdijjkegeccaaGreat
