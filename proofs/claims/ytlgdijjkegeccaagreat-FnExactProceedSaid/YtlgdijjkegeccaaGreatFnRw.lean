/- Contracts: one reading that may wait, of the program and of the specification. -/
import Derived.Test.YtlgdijjkegeccaaGreatFnRs
import Derived.Test.YtlgdijjkegeccaaGreatBvM5
namespace Go.Proofs.YtlgdijjkegeccaaGreat
open Go Go.RowKit Go.Bv
set_option linter.unusedSimpArgs false
set_option linter.unusedVariables false
set_option maxRecDepth 4000
set_option maxHeartbeats 8000000
/-! The walks that end. -/
theorem wFnRw28_0 {p : Prop} (h : p := by
  have E0 := @encRing.eq_1
  have E1 := @zeroTold.eq_1
  have E2 := @encTold.eq_1
  have E3 := @encMsg.eq_1
  refine snd_B hT Tryz.func28 Tryz.results28 Tryz.ntmps28 ?_
  repeat' (first | refine oneF ?_ | (refine two ?_ ?_; all_goals (intro h; try simp only [Bool.not_eq_true', Bool.not_eq_false', reduceCtorEq] at h)) | fail)
  all_goals (simp only [go_sem, *]; first | done | rfl)) : p := h
theorem sFnRw19F {p q : Prop} (k : q) (h : q → p := by
  first
  | exact shAR 5 (by exact i_W hT [[], [0], [], [], [0, 1], [0, 1, 2, 4], [0, 1, 2, 3, 4, 5]] [[(32, _)], [(33, _), (8, _), (26, _), (27, _), (31, _), (32, _)], [(34, _)], [(35, _)], [(4, _), (33, _)], [(5, _)], [(6, _), (10, _), (24, _), (35, _)]] (by decide +kernel) (by refine st_oF [1, 4, 5, 6] ?_; refine st_oL [4, 5, 6] ?_ ?_; rotate_left; refine st_oF [5, 6] ?_; refine st_oF [6] ?_; rotate_left; intro D hk hd hf; (try simp only [go_sem, allT, Option.getD_some] at hd); (try simp only [go_sem, allF] at hf); simp only [fillW, putIfs, putIf, fillU, putU, updAt, updV, hset, cond_true, also, Nat.reduceBEq, cond_false, Nat.reduceAdd, hd, hk, hf]; (first | exact as_k | exact as_tF | fail); refine st_oF [5, 6] ?_; refine st_oF [6] ?_; refine st_oF [] ?_; exact steps_nil))
  | exact i1F
  | fail) : p := h k
theorem wFnRw19_0 {p : Prop} (h : p := by
  have E0 := @encRing.eq_1
  have E1 := @encSub.eq_1
  have E2 := @zeroTold.eq_1
  have E3 := @encTold.eq_1
  have E4 := @encMsg.eq_1
  have E5 := @zeroRing.eq_1
  refine snd_b hT Tryz.func19 Tryz.results19 Tryz.ntmps19 ?_
  repeat' (first | refine sFnRw19F ?_ | (refine two ?_ ?_; all_goals (intro h; try simp only [Bool.not_eq_true', Bool.not_eq_false', reduceCtorEq] at h)) | fail)
  all_goals (simp only [go_sem, *]; first | done | rfl)) : p := h
-- VIEWS

theorem noSh_Told0 (x : ToldV) : noSh (encTold false x) = true := by simp only [encTold, encMsg, noSh, noShs, Bool.and_self]
attribute [go_sem] noSh_Told0
/-- What a reading leaves. -/
def readR (r : RingV) (k : Nat) (s : SubV) : RingV := trimR (readK r k s)
/-- What a reading that may wait leaves. -/
def waitR (r : RingV) (k : Nat) (s : SubV) (id : Int) : RingV := if readC r s = 4 then { readR r k s with line := r.line ++ [id] } else readR r k s
theorem readC_cases (r : RingV) (s : SubV) : readC r s = 0 ∨ readC r s = 6 ∨ readC r s = 4 := by
  unfold readC
  split
  · exact .inl rfl
  · split
    · exact .inl rfl
    · split
      · exact .inr (.inl rfl)
      · exact .inr (.inr rfl)
theorem readS_fit {r : RingV} (hI : ReadIs r) {k : Nat} {s : SubV} (hs : r.subs[k]? = some s) : s.cursor ≤ (readS r s).cursor ∧ (readS r s).filter = s.filter ∧ (readS r s).id = s.id := by
  unfold readS
  split
  · exact ⟨by simp only; omega, rfl, rfl⟩
  · split
    · exact ⟨by simp only; omega, rfl, rfl⟩
    · exact ⟨by simp only; omega, rfl, rfl⟩
theorem readK_fit {r : RingV} (hr : okRing r) (hI : ReadIs r) {k : Nat} {s : SubV} (hs : r.subs[k]? = some s) (f : List Int) (hf : okIntS f) : ∃ g, Turn r.subs g k (readS r s) ∧ OneFit r g ∧ readK r k s = ⟨r.cap, r.sent, r.items, r.next, g, r.line, r.grants, r.closed⟩ ∧
    okRing ⟨r.cap, r.sent, r.items, r.next, g, f, r.grants, r.closed⟩ := by
  obtain ⟨g, t⟩ := turn (readS r s) hs
  have hS := readS_fit hI hs
  have hF := one_fit hr hI hs t hS.1 hS.2.1
  exact ⟨g, t, hF, readK_turn t, hF.ok.1, hF.ok.2.1, hf, hr.2.2.2⟩
-- LENTB b_impl_Ring_readOrWait
theorem wait0_impl (r : RingV) (id : Int) (k : Nat) (s : SubV) {u : AV} (hu : u = .box (encRing true r)) (hr : okRing r) (hI : ReadIs r) (hk : atI r.subs id = k) (hks : r.subs[k]? = some s) (hl : r.line.length ≤ 4194304) :
    SoundB P 28 [u, .int .i64 id] 0 (.tup [encTold false (readT r s), .int .i64 (readC r s)]) (.box (encRing true (waitR r k s id))) := by
  subst hu
  have hll : (trimR (readK r k s)).line = r.line := rfl
  have hlm : r.line.map encInt ++ [.int .i64 id] = (r.line ++ [id]).map encInt := by rw [List.map_append]; rfl
  obtain ⟨T, hT⟩ : ∃ T, readT r s = T := ⟨_, rfl⟩
  obtain ⟨q, hq⟩ : ∃ q, trimR (readK r k s) = q := ⟨_, rfl⟩
  rw [hq] at hll
  have hb : SoundB P 65 [.box (.agg [.int .i64 r.cap, .int .i64 r.sent, .lst true 3 (r.items.map (encMsg true)), .int .i64 r.next, .lst true 7 (r.subs.map (encSub true)), .lst true 1 (r.line.map encInt), .lst true 1 (r.grants.map encInt), .bool r.closed]), .int .i64 id] 0 (.tup [encTold false (readT r s), .int .i64 (readC r s)]) (.box (encRing true (trimR (readK r k s)))) :=
    read0_impl r id k s rfl hr hI hk hks
  rw [hT, hq] at hb
  rcases readC_cases r s with hc | hc | hc
  · have hv : waitR r k s id = q := by rw [waitR, if_neg (by omega), readR, hq]
    rw [hc] at hb
    rw [hv, hT, hc]
    clear hv hT hq hc hI hr hlm hks hk hll
    exact wFnRw28_0
  · have hv : waitR r k s id = q := by rw [waitR, if_neg (by omega), readR, hq]
    rw [hc] at hb
    rw [hv, hT, hc]
    clear hv hT hq hc hI hr hlm hks hk hll
    exact wFnRw28_0
  · have hv : waitR r k s id = { q with line := r.line ++ [id] } := by rw [waitR, if_pos hc, readR, hq]
    rw [hc] at hb
    rw [hv, hT, hc]
    clear hv hT hq hc hI hr hks hk
    exact wFnRw28_0
theorem b_impl_Ring_readOrWait (cap sent : Int) (items : List MsgV) (next : Int) (subs : List SubV) (line grants : List Int) (closed : Bool) (id : Int) (k : Nat) (s : SubV) {u : AV}
    (hu : u = .box (.agg [.int .i64 cap, .int .i64 sent, .lst true 3 (items.map (encMsg true)), .int .i64 next, .lst true 7 (subs.map (encSub true)), .lst true 1 (line.map encInt), .lst true 1 (grants.map encInt), .bool closed]))
    (hr : okRing ⟨cap, sent, items, next, subs, line, grants, closed⟩) (hI : ReadIs ⟨cap, sent, items, next, subs, line, grants, closed⟩) (hk : atI subs id = k) (hks : subs[k]? = some s) (hl : line.length ≤ 4194304) :
    SoundB P 28 [u, .int .i64 id] 0 (.tup [encTold false (readT ⟨cap, sent, items, next, subs, line, grants, closed⟩ s), .int .i64 (readC ⟨cap, sent, items, next, subs, line, grants, closed⟩ s)]) (.box (encRing true (waitR ⟨cap, sent, items, next, subs, line, grants, closed⟩ k s id))) :=
  wait0_impl ⟨cap, sent, items, next, subs, line, grants, closed⟩ id k s hu hr hI hk hks hl
noncomputable abbrev ib_impl_Ring_readOrWait := ConB.mk (P := P) (f := 28) Tryz.call28 @b_impl_Ring_readOrWait
attribute [instance] ib_impl_Ring_readOrWait
-- MOVE c_spec_l9Reads
theorem wait0_spec (r : RingV) (k : Nat) (s : SubV) {u : AV} (hu : u = encRing true r) (hr : okRing r) (hI : ReadIs r) (hks : r.subs[k]? = some s) (hl : r.line.length ≤ 4194304) :
    Sound P 19 [u, .int .i64 (k : Int)] (.tup [encRing true (waitR r k s s.id), encTold false (readT r s), .int .i64 (readC r s)]) := by
  subst hu
  have hl16 := hI.len
  have m3 : r.items.length ≤ 4194304 := by omega
  have hkl := (List.getElem?_eq_some_iff.1 hks).1
  have hk0 : (0 : Int) ≤ (k : Int) := by omega
  have hk1 : (k : Int) < (r.subs.length : Int) := by omega
  have := hI.cap1; have := hI.cap2; have := hI.sent1; have := hI.sent2
  have hb1 : -9223372036854775808 ≤ r.sent - r.cap := by omega
  have hb2 : r.sent - r.cap ≤ 9223372036854775807 := by omega
  have hlm : r.line.map encInt ++ [.int .i64 s.id] = (r.line ++ [s.id]).map encInt := by rw [List.map_append]; rfl
  have hok2 : okIntS (r.line ++ [s.id]) := ⟨by simp; omega, fun x _ => trivial⟩
  obtain ⟨g, t, hF, hv, ho2⟩ := readK_fit hr hI hks (r.line ++ [s.id]) hok2
  obtain ⟨T, hT⟩ : ∃ T, readT r s = T := ⟨_, rfl⟩
  have hb : Sound P 46 [.agg [.int .i64 r.cap, .int .i64 r.sent, .lst true 3 (r.items.map (encMsg true)), .int .i64 r.next, .lst true 7 (r.subs.map (encSub true)), .lst true 1 (r.line.map encInt), .lst true 1 (r.grants.map encInt), .bool r.closed], .int .i64 (k : Int)] (.tup [encRing true (readK r k s), encTold false (readT r s), .int .i64 (readC r s)]) :=
    read0_spec r k s rfl hr hI hks
  rw [hT, hv] at hb
  have ho := hF.ok
  have f1 := hF.f1
  have f2 := hF.f2
  have f3 : 0 ≤ r.sent - oldestI ⟨r.cap, r.sent, r.items, r.next, g, r.line ++ [s.id], r.grants, r.closed⟩ := f1
  have f4 : r.sent - oldestI ⟨r.cap, r.sent, r.items, r.next, g, r.line ++ [s.id], r.grants, r.closed⟩ ≤ r.items.length := f2
  rcases readC_cases r s with hc | hc | hc
  · have hw : waitR r k s s.id = trimR ⟨r.cap, r.sent, r.items, r.next, g, r.line, r.grants, r.closed⟩ := by rw [waitR, if_neg (by omega), readR, hv]
    rw [hc] at hb
    rw [hw, hT, hc]
    clear hv hT hc hI hF hlm t hw hr
    exact wFnRw19_0
  · have hw : waitR r k s s.id = trimR ⟨r.cap, r.sent, r.items, r.next, g, r.line, r.grants, r.closed⟩ := by rw [waitR, if_neg (by omega), readR, hv]
    rw [hc] at hb
    rw [hw, hT, hc]
    clear hv hT hc hI hF hlm t hw hr
    exact wFnRw19_0
  · have hw : waitR r k s s.id = trimR ⟨r.cap, r.sent, r.items, r.next, g, r.line ++ [s.id], r.grants, r.closed⟩ := by rw [waitR, if_pos hc, readR, hv]; rfl
    rw [hc] at hb
    rw [hw, hT, hc]
    clear hv hT hc hI hF t hw hr
    exact wFnRw19_0
theorem c_spec_l9Reads (cap sent : Int) (items : List MsgV) (next : Int) (subs : List SubV) (line grants : List Int) (closed : Bool) (k : Nat) (s : SubV) {u : AV}
    (hu : u = .agg [.int .i64 cap, .int .i64 sent, .lst true 3 (items.map (encMsg true)), .int .i64 next, .lst true 7 (subs.map (encSub true)), .lst true 1 (line.map encInt), .lst true 1 (grants.map encInt), .bool closed])
    (hr : okRing ⟨cap, sent, items, next, subs, line, grants, closed⟩) (hI : ReadIs ⟨cap, sent, items, next, subs, line, grants, closed⟩) (hks : subs[k]? = some s) (hl : line.length ≤ 4194304) :
    Sound P 19 [u, .int .i64 (k : Int)] (.tup [encRing true (waitR ⟨cap, sent, items, next, subs, line, grants, closed⟩ k s s.id), encTold false (readT ⟨cap, sent, items, next, subs, line, grants, closed⟩ s), .int .i64 (readC ⟨cap, sent, items, next, subs, line, grants, closed⟩ s)]) :=
  wait0_spec ⟨cap, sent, items, next, subs, line, grants, closed⟩ k s hu hr hI hks hl
noncomputable abbrev ic_spec_l9Reads := ConM.mk (P := P) (f := 19) Tryz.call19 @c_spec_l9Reads
attribute [instance] ic_spec_l9Reads
end Go.Proofs.YtlgdijjkegeccaaGreat
