/- Contracts: one reading, of the specification. -/
import Derived.Test.YtlgdijjkegeccaaGreatFnRi
import Derived.Test.YtlgdijjkegeccaaGreatBvM5
namespace Go.Proofs.YtlgdijjkegeccaaGreat
open Go Go.RowKit Go.Bv
set_option linter.unusedSimpArgs false
set_option linter.unusedVariables false
set_option maxRecDepth 4000
set_option maxHeartbeats 8000000
/-! The walks that end. -/
theorem sFnRs46 {p q : Prop} (k : q) (h : q → p := by
  first
  | exact shAR 15 (by exact i_W hT [[], [], [], [2], [2, 3], [1, 2, 3, 4], [0], [0, 1, 2, 3, 4, 5, 6], [0, 1, 2, 3, 4, 5, 6, 7]] [[(80, _)], [(81, _)], [(82, _)], [(83, _)], [(84, _)], [(85, _)], [(4, _), (2, _), (11, _), (12, _), (14, _), (15, _), (16, _), (18, _), (36, _), (37, _), (40, _), (41, _), (44, _), (46, _), (47, _), (52, _), (55, _), (56, _), (61, _), (75, _), (76, _), (79, _), (80, _), (90, _), (91, _), (94, _), (95, _), (97, _), (99, _)], [(5, _)], [(6, _)]] (by decide +kernel) (by refine st_o [6, 7, 8] ?_; refine st_o [5, 7, 8] ?_; refine st_o [3, 4, 5, 7, 8] ?_; refine st_o [4, 5, 7, 8] ?_; refine st_o [5, 7, 8] ?_; refine st_o [7, 8] ?_; refine st_o [7, 8] ?_; refine st_o [8] ?_; refine st_o [] ?_; exact steps_nil))
  | exact i1
  | fail) : p := h k
theorem wFnRs46_0 {p : Prop} (h : p := by
  have E0 := @encRing.eq_1
  have E1 := @encSub.eq_1
  have E2 := @encMsg.eq_1
  have E3 := @zeroTold.eq_1
  have E4 := @zeroRing.eq_1
  refine snd_b hT Tryz.func46 Tryz.results46 Tryz.ntmps46 ?_
  repeat' (first | refine sFnRs46 ?_ | (refine two ?_ ?_; all_goals (intro h; try simp only [Bool.not_eq_true', Bool.not_eq_false', reduceCtorEq] at h)) | fail)
  all_goals (simp only [go_sem, *]; first | done | rfl)) : p := h
theorem wFnRs46_1 {p : Prop} (h : p := by
  have E0 := @encRing.eq_1
  have E1 := @encSub.eq_1
  have E2 := @zeroTold.eq_1
  have E3 := @encTold.eq_1
  have E4 := @encMsg.eq_1
  have E5 := @zeroRing.eq_1
  repeat' (first | refine sFnRs46 ?_ | (refine two ?_ ?_; all_goals (intro h; try simp only [Bool.not_eq_true', Bool.not_eq_false', reduceCtorEq] at h)) | fail)
  all_goals (simp only [go_sem, *]; first | done | rfl)) : p := h
-- VIEWS

-- MOVE c_spec_l9Read
theorem read0_spec (r : RingV) (k : Nat) (s : SubV) {u : AV} (hu : u = encRing true r) (hr : okRing r) (hI : ReadIs r) (hks : r.subs[k]? = some s) :
    Sound P 46 [u, .int .i64 (k : Int)] (.tup [encRing true (readK r k s), encTold false (readT r s), .int .i64 (readC r s)]) := by
  subst hu
  have hs := hI.sub k s hks
  have hl16 := hI.len
  have hkl := (List.getElem?_eq_some_iff.1 hks).1
  have hk0 : (0 : Int) ≤ (k : Int) := by omega
  have hk1 : (k : Int) < (r.subs.length : Int) := by omega
  have := hI.cap1; have := hI.cap2; have := hI.sent1; have := hI.sent2; have := hs.start; have := hs.cur1; have := hs.cur2; have := hs.got1; have := hs.got2; have := hs.lost1; have := hs.lost2; have := hs.pass1; have := hs.pass2
  have w1 : IntKind.i64.wrap (r.sent - r.cap) = r.sent - r.cap := by rw [wrap_small] <;> omega
  obtain ⟨M, hM⟩ : ∃ M, (r.subs.map (encSub true)).set k (.agg [.int .i64 s.id, .int .i64 s.start, .int .i64 s.cursor, .int .i64 s.got, .int .i64 s.lost, .int .i64 s.passed, .undef]) = M := ⟨_, rfl⟩
  have hMl : M.length = r.subs.length := by rw [← hM]; simp
  have hMg : M[k]? = some (.agg [.int .i64 s.id, .int .i64 s.start, .int .i64 s.cursor, .int .i64 s.got, .int .i64 s.lost, .int .i64 s.passed, .undef]) := by rw [← hM, List.getElem?_set_self (by simpa using hkl)]
  have hMa : (M.all fun u => alen u == 7) = true := by
    rw [← hM, List.all_eq_true]
    intro x hx
    rcases List.mem_or_eq_of_mem_set hx with hx | rfl
    · exact List.all_eq_true.1 (alen_Sub true r.subs) x hx
    · rfl
  have hMs : ∀ q : SubV, ∀ g, Turn r.subs g k q → M.set k (encSub true q) = g.map (encSub true) := fun q g h => by rw [← hM, List.set_set, h.map]
  have hKM := Kept.mk hMs
  clear hMs
  by_cases hg : goneQ r s > 0
  · obtain ⟨C, hC⟩ : ∃ C, s.cursor + goneQ r s = C := ⟨_, rfl⟩
    obtain ⟨L, hL⟩ : ∃ L, s.lost + goneQ r s = L := ⟨_, rfl⟩
    have hS : readS r s = ⟨s.id, s.start, C, s.got, L, s.passed, s.filter⟩ := by simp only [readS, if_pos hg, hC, hL]
    have hT : readT r s = ⟨2, noMsg, 0, goneQ r s⟩ := by simp only [readT, if_pos hg]
    have hc : readC r s = 0 := by simp only [readC, if_pos hg]
    obtain ⟨g, t⟩ := turn ⟨s.id, s.start, C, s.got, L, s.passed, s.filter⟩ hks
    have e : M.set k (.agg [.int .i64 s.id, .int .i64 s.start, .int .i64 C, .int .i64 s.got, .int .i64 L, .int .i64 s.passed, .lst true 3 (s.filter.map encT)]) = g.map (encSub true) := hKM.out _ g t
    rw [← hS] at t
    rw [readK_turn t, hT, hc]
    obtain ⟨G, hG⟩ : ∃ G, goneQ r s = G := ⟨_, rfl⟩
    rw [hG] at hC hL hg ⊢
    unfold goneQ at hG
    have w2 : IntKind.i64.wrap (r.sent - r.cap - s.cursor) = G := by rw [hG, wrap_small] <;> omega
    have w3 : IntKind.i64.wrap (s.cursor + G) = C := by rw [hC, wrap_small] <;> omega
    have w4 : IntKind.i64.wrap (s.lost + G) = L := by rw [hL, wrap_small] <;> omega
    have hd : decide (G > 0) = true := decide_eq_true hg
    clear hS hT hc t hI hs hC hL hG hg hKM
    exact wFnRs46_0
  have hA := hI.stands hks hg
  obtain ⟨G, hG⟩ : ∃ G, goneQ r s = G := ⟨_, rfl⟩
  have hG' := hG
  unfold goneQ at hG'
  have w2 : IntKind.i64.wrap (r.sent - r.cap - s.cursor) = G := by rw [hG', wrap_small] <;> omega
  have hd : decide (G > 0) = false := decide_eq_false (by omega)
  have w3 : IntKind.i64.wrap (r.sent - (r.items.length : Int)) = r.sent - (r.items.length : Int) := by rw [wrap_small] <;> omega
  clear hG'
  refine snd_b hT Tryz.func46 Tryz.results46 Tryz.ntmps46 ?_
  (all_goals (have E0 := @encRing.eq_1))
  (all_goals (have E1 := @encSub.eq_1))
  (all_goals (have E2 := @encMsg.eq_1))
  (all_goals (have E3 := @zeroTold.eq_1))
  (all_goals (have E4 := @zeroRing.eq_1))
  repeat' (first | refine sFnRs46 ?_ | (refine two ?_ ?_; all_goals (intro h; try simp only [Bool.not_eq_true', Bool.not_eq_false', reduceCtorEq] at h)) | fail)
  all_goals (try clear E0 E1 E2 E3 E4)
  refine aw_loop [0, 3, 10, 11, 12, 13, 14, 15, 16, 17, 18, 19, 20, 21, 22, 23, 24, 25, 26, 27, 28, 29, 30, 31, 32, 33, 34, 35, 36, 37, 38, 39, 40, 41, 42, 43, 44, 45, 46, 47, 48, 49, 50, 51, 52, 53, 54, 55, 56, 57, 58, 59, 60, 61, 62, 63, 64, 65, 66, 67, 68, 69, 70, 71, 72, 73, 74, 75, 76, 77, 78, 79, 80, 81, 82, 83, 84, 85, 86, 87, 88, 89, 90, 91, 92, 93, 94, 95, 96, 97, 98, 99, 100] (fun n S => ∃ i : Nat, n = (aheadL r s).length - i ∧ i ≤ (aheadL r s).length ∧ PassUpto r s i ∧ S = [.undef, .int .i64 (k : Int), .box (.agg [.int .i64 r.cap, .int .i64 r.sent, .lst true 3 (r.items.map (encMsg true)), .int .i64 r.next, .lst true 7 M, .lst true 1 (r.line.map encInt), .lst true 1 (r.grants.map encInt), .bool r.closed]), .undef, .box zeroRing, .box zeroTold, .int .i64 0, .box (.agg [.int .i64 s.id, .int .i64 s.start, .int .i64 (s.cursor + (i : Int)), .int .i64 s.got, .int .i64 s.lost, .int .i64 (s.passed + (i : Int)), .lst true 3 (s.filter.map encT)]), .int .i64 G, .int .i64 (r.sent - (r.items.length : Int)), .undef, .undef, .undef, .undef, .undef, .undef, .undef, .undef, .undef, .undef, .undef, .undef, .undef, .undef, .undef, .undef, .undef, .undef, .undef, .undef, .undef, .undef, .undef, .undef, .undef, .undef, .undef, .undef, .undef, .undef, .undef, .undef, .undef, .undef, .undef, .undef, .undef, .undef, .undef, .undef, .undef, .undef, .undef, .undef, .undef, .undef, .undef, .undef, .undef, .undef, .undef, .undef, .undef, .undef, .undef, .undef, .undef, .undef, .undef, .undef, .undef, .undef, .undef, .undef, .undef, .undef, .undef, .undef, .undef, .undef, .undef, .undef, .undef, .undef, .undef, .undef, .undef, .undef, .undef, .undef, .undef, .undef, .undef, .undef, .undef, .undef, .undef, .undef, .undef, .undef, .undef]) (aheadL r s).length ?_ ?_
  · refine ⟨0, by simp, by omega, fun j m hj => by omega, ?_⟩
    rw [show s.cursor + ((0 : Nat) : Int) = s.cursor by simp, show s.passed + ((0 : Nat) : Int) = s.passed by simp]
    (rw [clr_eq]; rotate_left; rfl; simp only [keepB, go_sem, Nat.reduceBEq, Nat.reduceAdd, cond_true, cond_false, *]; simp only [clrG, Nat.reduceBEq, Nat.reduceAdd, cond_true, cond_false])
    first | done | rfl
  rintro n S ⟨i, hn, hi, hpu, rfl⟩
  have hal := hA.len
  have hof := hA.off
  have hfi := hA.fit
  by_cases hlt : i < (aheadL r s).length
  · have hdl : decide (s.cursor + (i : Int) < r.sent) = true := decide_eq_true (by omega)
    obtain ⟨m, hm⟩ : ∃ m, (aheadL r s)[i]? = some m := ⟨(aheadL r s)[i], List.getElem?_eq_getElem _⟩
    have hmx := ahead_at hm
    have hmb := hI.msg hmx
    have hff := hs.filter
    obtain ⟨x, hx⟩ : ∃ x, offN r s + i = x := ⟨_, rfl⟩
    rw [hx] at hmx
    have wx : IntKind.i64.wrap (s.cursor + (i : Int) - (r.sent - (r.items.length : Int))) = (x : Int) := by rw [wrap_small] <;> omega
    have hx0 : (0 : Int) ≤ (x : Int) := by omega
    have hx1 : (x : Int) < (r.items.length : Int) := by omega
    have wc : IntKind.i64.wrap (s.cursor + (i : Int) + 1) = s.cursor + ((i + 1 : Nat) : Int) := by rw [wrap_small] <;> omega
    cases hp : leftB s.filter m
    · have wp : IntKind.i64.wrap (s.passed + (i : Int) + 1) = s.passed + ((i + 1 : Nat) : Int) := by rw [wrap_small] <;> omega
      have hnext : ∀ n', n' = (aheadL r s).length - (i + 1) → n' < n ∧ PassUpto r s (i + 1) := fun n' e => ⟨by omega, hpu.succ hm hp⟩
      have hK := Kept.mk hnext
      clear hnext hA hI hs hpu hm hx hn hks hG hg hKM hM
      (all_goals (have E0 := @encRing.eq_1))
      (all_goals (have E1 := @encSub.eq_1))
      (all_goals (have E2 := @encMsg.eq_1))
      (all_goals (have E3 := @zeroTold.eq_1))
      (all_goals (have E4 := @zeroRing.eq_1))
      repeat' (first | refine sFnRs46 ?_ | (refine two ?_ ?_; all_goals (intro h; try simp only [Bool.not_eq_true', Bool.not_eq_false', reduceCtorEq] at h)) | fail)
      all_goals (try clear E0 E1 E2 E3 E4)
      all_goals (
        refine ⟨(aheadL r s).length - (i + 1), (hK.out _ rfl).1, i + 1, rfl, by omega, (hK.out _ rfl).2, ?_⟩
        clear hK
        (rw [clr_eq]; rotate_left; rfl; simp only [keepB, go_sem, Nat.reduceBEq, Nat.reduceAdd, cond_true, cond_false, *]; simp only [clrG, Nat.reduceBEq, Nat.reduceAdd, cond_true, cond_false])
        first | done | rfl)
    · obtain ⟨p1, p2⟩ := pass_hit hpu hm hp
      have wg : IntKind.i64.wrap (s.got + 1) = s.got + 1 := by rw [wrap_small] <;> omega
      have wi : IntKind.i64.wrap (s.cursor + ((i + 1 : Nat) : Int) - 1) = s.cursor + (i : Int) := by rw [wrap_small] <;> omega
      have hS : readS r s = ⟨s.id, s.start, s.cursor + ((i + 1 : Nat) : Int), s.got + 1, s.lost, s.passed + (i : Int), s.filter⟩ := by simp only [readS, if_neg hg, p1, p2]
      have hT : readT r s = ⟨1, m, s.cursor + (i : Int), 0⟩ := by simp only [readT, if_neg hg, p1, p2]
      have hc : readC r s = 0 := by simp only [readC, if_neg hg, p2]
      obtain ⟨g, t⟩ := turn ⟨s.id, s.start, s.cursor + ((i + 1 : Nat) : Int), s.got + 1, s.lost, s.passed + (i : Int), s.filter⟩ hks
      have e : M.set k (.agg [.int .i64 s.id, .int .i64 s.start, .int .i64 (s.cursor + ((i + 1 : Nat) : Int)), .int .i64 (s.got + 1), .int .i64 s.lost, .int .i64 (s.passed + (i : Int)), .lst true 3 (s.filter.map encT)]) = g.map (encSub true) := hKM.out _ g t
      rw [← hS] at t
      rw [readK_turn t, hT, hc]
      clear hA hI hs hpu t hm hx hn hks hG hg p1 p2 hS hT hc hKM hM
      exact wFnRs46_1
  · have hdl : decide (s.cursor + (i : Int) < r.sent) = false := decide_eq_false (by omega)
    have hie : i = (aheadL r s).length := by omega
    obtain ⟨p1, p2⟩ := pass_end (by rw [← hie]; exact hpu)
    rw [← hie] at p1
    have hS : readS r s = ⟨s.id, s.start, s.cursor + (i : Int), s.got, s.lost, s.passed + (i : Int), s.filter⟩ := by simp only [readS, if_neg hg, p1, p2]
    have hT : readT r s = noTold := by simp only [readT, if_neg hg, p2]
    obtain ⟨g, t⟩ := turn ⟨s.id, s.start, s.cursor + (i : Int), s.got, s.lost, s.passed + (i : Int), s.filter⟩ hks
    have e : M.set k (.agg [.int .i64 s.id, .int .i64 s.start, .int .i64 (s.cursor + (i : Int)), .int .i64 s.got, .int .i64 s.lost, .int .i64 (s.passed + (i : Int)), .lst true 3 (s.filter.map encT)]) = g.map (encSub true) := hKM.out _ g t
    rw [← hS] at t
    rw [readK_turn t, hT]
    rcases (by cases h : r.closed with
      | false => exact .inl ⟨rfl⟩
      | true => exact .inr ⟨rfl⟩ : Kept (r.closed = false) ∨ Kept (r.closed = true)) with hcl | hcl
    · have hc : readC r s = 4 := by simp only [readC, if_neg hg, p2, hcl.out]; rfl
      rw [hc]
      have hcc := hcl.out
      clear hA hI hs hpu t hn hks hG hg p1 p2 hS hT hc hie hKM hM
      (all_goals (have E0 := @encRing.eq_1))
      (all_goals (have E1 := @encSub.eq_1))
      (all_goals (have E2 := @encMsg.eq_1))
      (all_goals (have E3 := @zeroTold.eq_1))
      (all_goals (have E4 := @zeroRing.eq_1))
      repeat' (first | refine sFnRs46 ?_ | (refine two ?_ ?_; all_goals (intro h; try simp only [Bool.not_eq_true', Bool.not_eq_false', reduceCtorEq] at h)) | fail)
      all_goals (try clear E0 E1 E2 E3 E4)
      all_goals ((simp only [go_sem, *]); simp only [encRing, hcc]; first | done | rfl)
    · have hc : readC r s = 6 := by simp only [readC, if_neg hg, p2, hcl.out]; rfl
      rw [hc]
      have hcc := hcl.out
      clear hA hI hs hpu t hn hks hG hg p1 p2 hS hT hc hie hKM hM
      (all_goals (have E0 := @encRing.eq_1))
      (all_goals (have E1 := @encSub.eq_1))
      (all_goals (have E2 := @encMsg.eq_1))
      (all_goals (have E3 := @zeroTold.eq_1))
      (all_goals (have E4 := @zeroRing.eq_1))
      repeat' (first | refine sFnRs46 ?_ | (refine two ?_ ?_; all_goals (intro h; try simp only [Bool.not_eq_true', Bool.not_eq_false', reduceCtorEq] at h)) | fail)
      all_goals (try clear E0 E1 E2 E3 E4)
      all_goals ((simp only [go_sem, *]); simp only [encRing, hcc]; first | done | rfl)
theorem c_spec_l9Read (cap sent : Int) (items : List MsgV) (next : Int) (subs : List SubV) (line grants : List Int) (closed : Bool) (k : Nat) (s : SubV) {u : AV}
    (hu : u = .agg [.int .i64 cap, .int .i64 sent, .lst true 3 (items.map (encMsg true)), .int .i64 next, .lst true 7 (subs.map (encSub true)), .lst true 1 (line.map encInt), .lst true 1 (grants.map encInt), .bool closed])
    (hr : okRing ⟨cap, sent, items, next, subs, line, grants, closed⟩) (hI : ReadIs ⟨cap, sent, items, next, subs, line, grants, closed⟩) (hks : subs[k]? = some s) :
    Sound P 46 [u, .int .i64 (k : Int)] (.tup [encRing true (readK ⟨cap, sent, items, next, subs, line, grants, closed⟩ k s), encTold false (readT ⟨cap, sent, items, next, subs, line, grants, closed⟩ s), .int .i64 (readC ⟨cap, sent, items, next, subs, line, grants, closed⟩ s)]) :=
  read0_spec ⟨cap, sent, items, next, subs, line, grants, closed⟩ k s hu hr hI hks
noncomputable abbrev ic_spec_l9Read := ConM.mk (P := P) (f := 46) Tryz.call46 @c_spec_l9Read
attribute [instance] ic_spec_l9Read
end Go.Proofs.YtlgdijjkegeccaaGreat
