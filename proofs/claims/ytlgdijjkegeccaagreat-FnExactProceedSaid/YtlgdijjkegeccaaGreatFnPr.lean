/- Contracts: Proceed, of the program and of the specification; the law. -/
import Derived.Test.YtlgdijjkegeccaaGreatFnRc
import Derived.Test.YtlgdijjkegeccaaGreatKU
import Derived.Test.YtlgdijjkegeccaaGreatBvM5
import Derived.Test.YtlgdijjkegeccaaGreatBvUx
namespace Go.Proofs.YtlgdijjkegeccaaGreat
open Go Go.RowKit Go.Bv
set_option linter.unusedSimpArgs false
set_option linter.unusedVariables false
set_option maxRecDepth 4000
set_option maxHeartbeats 8000000
/-! The walks that end. -/
theorem sFnPr7 {p q : Prop} (k : q) (h : q → p := by
  first
  | exact shAR 10 (by exact i_W hT [[], [], [], [0], [0, 1, 3], [0, 1, 2, 3, 4]] [[(43, _)], [(44, _)], [(45, _)], [(4, _), (7, _), (16, _), (23, _), (31, _), (37, _), (43, _)], [(5, _)], [(6, _)]] (by decide +kernel) (by refine st_o [3, 4, 5] ?_; refine st_o [4, 5] ?_; refine st_o [5] ?_; refine st_o [4, 5] ?_; refine st_o [5] ?_; refine st_o [] ?_; exact steps_nil))
  | exact i1
  | fail) : p := h k
theorem wFnPr7_0 {p : Prop} (h : p := by
  have E0 := @encRing.eq_1
  have E1 := @zeroRing.eq_1
  have E2 := @zeroTold.eq_1
  have E3 := @encTold.eq_1
  have E4 := @encMsg.eq_1
  refine snd_b hT Tryz.func7 Tryz.results7 Tryz.ntmps7 ?_
  repeat' (first | refine sFnPr7 ?_ | (refine two ?_ ?_; all_goals (intro h; try simp only [Bool.not_eq_true', Bool.not_eq_false', reduceCtorEq] at h)) | fail)
  all_goals (simp only [go_sem, *]; first | done | rfl)) : p := h
theorem sFnPr5 {p q : Prop} (k : q) (h : q → p := by
  first
  | exact shAR 9 (by exact i_U hT [[], [], [], [1, 2], [0, 1, 2, 3], [0, 1, 2, 3, 4], [0, 1, 2, 3, 4], [0, 1, 2, 3, 4], [0, 1, 2, 3, 4, 5, 6, 7], [0, 1, 2, 3, 4, 5, 6, 7, 8], [0, 1, 2, 3, 4, 5, 6, 7, 8, 9]] [[(36, .v _)], [(37, .v _)], [(38, .v _)], [(39, .v _)], [(40, .v _), (7, .v _), (14, .v _), (21, .v _), (29, .v _), (35, .v _), (36, .v _)], [(41, .v _), (40, .h 0)], [(42, .v _), (40, .h 1)], [(43, .v _), (40, .h 2)], [(4, .v _), (41, .v _)], [(5, .v _)], [(6, .v _)]] (by decide +kernel) (by refine st_oU [4, 5, 6, 7, 8, 9, 10] ?_; refine st_oU [3, 4, 5, 6, 7, 8, 9, 10] ?_; refine st_oU [3, 4, 5, 6, 7, 8, 9, 10] ?_; refine st_oU [4, 5, 6, 7, 8, 9, 10] ?_; refine st_oU [5, 6, 7, 8, 9, 10] ?_; refine st_oU [8, 9, 10] ?_; refine st_oU [8, 9, 10] ?_; refine st_oU [8, 9, 10] ?_; refine st_oU [9, 10] ?_; refine st_oU [10] ?_; refine st_oU [] ?_; exact steps_nil))
  | exact i1
  | fail) : p := h k
theorem wFnPr5_0 {p : Prop} (h : p := by
  have E0 := @encRing.eq_1
  have E1 := @zeroRing.eq_1
  have E2 := @zeroTold.eq_1
  have E3 := @encTold.eq_1
  have E4 := @encMsg.eq_1
  refine snd_b hT Tryz.func5 Tryz.results5 Tryz.ntmps5 ?_
  repeat' (first | refine sFnPr5 ?_ | (refine two ?_ ?_; all_goals (intro h; try simp only [Bool.not_eq_true', Bool.not_eq_false', reduceCtorEq] at h)) | fail)
  all_goals (simp only [go_sem, *]; first | done | rfl)) : p := h
theorem sFnPr3 {p q : Prop} (k : q) (h : q → p := by
  first
  | exact shAL (by exact i_l (f := 10) 0 _)
  | exact shAR 10 (by exact i_S hT [[], [], [1], [0, 1, 2], [0, 1, 2, 3]] [56, 57, 58, 59, 60])
  | exact i1
  | fail) : p := h k
theorem wFnPr3_0 {p : Prop} (h : p := by
  have E0 := @encRing.eq_1
  have E1 := @encTold.eq_1
  have E2 := @encMsg.eq_1
  have E3 := @zeroTold.eq_1
  refine snd_b hT Tryz.func3 Tryz.results3 Tryz.ntmps3 ?_
  repeat' (first | refine sFnPr3 ?_ | (refine two ?_ ?_; all_goals (intro h; try simp only [Bool.not_eq_true', Bool.not_eq_false', reduceCtorEq] at h)) | fail)
  all_goals (simp only [go_sem, *]; first | done | rfl)) : p := h
-- VIEWS

/-- The ring of which one goes on. -/
def goR (r : RingV) (id : Int) : RingV := { r with grants := r.grants.filter fun x => !(x == id) }
/-- Which Sub goes on. -/
def procK (r : RingV) (id : Int) : Option (Nat × SubV) := if ringB r && !(r.line.any (· == id)) && r.grants.any (· == id) then (match r.subs[(atI r.subs id).toNat]? with
  | some s => some ((atI r.subs id).toNat, s)
  | none => none) else none
def procR (r : RingV) (id : Int) : RingV := match procK r id with
  | some (k, s) => waitR (goR r id) k s id
  | none => r
def procT (r : RingV) (id : Int) : ToldV := match procK r id with
  | some (_, s) => readT (goR r id) s
  | none => noTold
def procC (r : RingV) (id : Int) : Int := match procK r id with
  | some (_, s) => readC (goR r id) s
  | none => if ringB r then (if r.line.any (· == id) then 4 else 3) else 1
theorem proc_some {r : RingV} {id : Int} {k : Nat} {s : SubV} (hB : ringB r = true) (hk : atI r.subs id = k) (hks : r.subs[k]? = some s) (hL : r.line.any (· == id) = false) (hG : r.grants.any (· == id) = true) : procK r id = some (k, s) := by
  simp only [procK, hB, hk, hL, hG, Bool.not_false, Bool.and_self, if_true, Int.toNat_natCast, hks]
theorem proc_none {r : RingV} {id : Int} (h : ringB r = false ∨ r.line.any (· == id) = true ∨ r.grants.any (· == id) = false) : procK r id = none := by
  unfold procK
  rw [if_neg]
  rcases h with h | h | h <;> simp only [h, Bool.not_true, Bool.and_false, Bool.false_and, Bool.false_eq_true, not_false_eq_true]
theorem proc_at {r : RingV} {id : Int} {k : Nat} {s : SubV} (h : procK r id = some (k, s)) : ringB r = true ∧ r.subs[k]? = some s := by
  unfold procK at h
  split at h
  · rename_i hc
    simp only [Bool.and_eq_true] at hc
    split at h
    · rename_i q hq
      simp only [Option.some.injEq, Prod.mk.injEq] at h
      obtain ⟨rfl, rfl⟩ := h
      exact ⟨hc.1.1, hq⟩
    · cases h
  · cases h
theorem RingIs.found {r : RingV} (h : RingIs r) {id : Int} (hg : r.grants.any (· == id) = true) : 0 ≤ atI r.subs id := by
  have hw := h.waits
  rw [waitB, Bool.and_eq_true, allTo_iff] at hw
  have hm : id ∈ r.line ++ r.grants := by
    obtain ⟨x, hx, he⟩ := List.any_eq_true.1 hg
    simp only [beq_iff_eq] at he
    subst he
    exact List.mem_append_right _ hx
  obtain ⟨i, hi⟩ := List.getElem?_of_mem hm
  have := hw.1 i (List.getElem?_eq_some_iff.1 hi).1
  unfold waitQ at this
  rw [hi] at this
  simp only [Bool.and_eq_true, decide_eq_true_eq] at this
  exact this.1.1
theorem go_fit {r : RingV} (hr : okRing r) (id : Int) : okRing (goR r id) := ⟨hr.1, hr.2.1, hr.2.2.1, Nat.lt_of_le_of_lt (List.length_filter_le _ _) hr.2.2.2.1, fun x hx => hr.2.2.2.2 x (List.mem_filter.1 hx).1⟩
theorem go_read {r : RingV} (h : RingIs r) (id : Int) : ReadIs (goR r id) := h.read.grants r.line _
theorem go_w (r : RingV) (id : Int) : wRing (goR r id) ≤ wRing r := by
  simp only [goR, wRing, wIntS]
  have b := List.length_filter_le (fun x => !(x == id)) r.grants
  have d := sumL_filter wInt (fun x => !(x == id)) r.grants
  omega
theorem proc_w (r : RingV) (id : Int) : wRing (procR r id) ≤ wRing r + 1 := by
  unfold procR
  split
  · rename_i h
    obtain ⟨hB, hs⟩ := proc_at h
    exact Nat.le_trans (wait_w (go_read (ringIs hB) id) hs id) (Nat.add_le_add_right (go_w r id) 1)
  · omega
theorem proc_t (r : RingV) (id : Int) : wTold (procT r id) ≤ wRing r := by
  unfold procT
  split
  · exact Nat.le_trans read_t (go_w r id)
  · exact Nat.zero_le _
theorem c_impl_Proceed (r : RingV) (id : Int) {u : AV} (hu : u = encRing false r) (hr : okRing r) (hw : wRing r ≤ 4194304) (l1 : r.line.length ≤ 1048576) (l2 : r.grants.length ≤ 1048576) : Sound P 7 [u, .int .i64 id] (.tup [encRing true (procR r id), encTold false (procT r id), .int .i64 (procC r id)]) := by
  subst hu
  have m1 : r.line.length < 4611686018427387904 := by omega
  have m2 : r.grants.length < 4611686018427387904 := by omega
  have l4 : r.line.length ≤ 4194304 := by omega
  have l5 : r.grants.length ≤ 4194304 := by omega
  have hl : r.subs.length < 4611686018427387904 := hr.2.1.1
  cases hB : ringB r
  have hK := proc_none (id := id) (.inl hB)
  rw [show procR r id = r by simp only [procR, hK], show procT r id = noTold by simp only [procT, hK], show procC r id = 1 by simp [procC, hK, hB]]
  clear hK
  rotate_left
  rcases (by cases r.line.any (· == id) <;> cases r.grants.any (· == id) <;> simp : r.line.any (· == id) = true ∨ (r.line.any (· == id) = false ∧ r.grants.any (· == id) = false) ∨ (r.line.any (· == id) = false ∧ r.grants.any (· == id) = true)) with hL | hL | hL
  have hK := proc_none (id := id) (.inr (.inl hL))
  rw [show procR r id = r by simp only [procR, hK], show procT r id = noTold by simp only [procT, hK], show procC r id = 4 by simp only [procC, hK, hB, if_true, hL]]
  clear hK
  rotate_left
  obtain ⟨hL, hG⟩ := hL
  have hK := proc_none (id := id) (.inr (.inr hG))
  rw [show procR r id = r by simp only [procR, hK], show procT r id = noTold by simp only [procT, hK], show procC r id = 3 by simp only [procC, hK, hB, hL, if_true, Bool.false_eq_true, if_false]]
  clear hK
  rotate_left
  obtain ⟨hL, hG⟩ := hL
  have hI := ringIs hB
  obtain ⟨k, s, hk, hkl, hks, hid⟩ := atI_at (hI.found hG)
  have hK := proc_some hB hk hks hL hG
  rw [show procR r id = waitR (goR r id) k s id by simp only [procR, hK], show procT r id = readT (goR r id) s by simp only [procT, hK], show procC r id = readC (goR r id) s by simp only [procC, hK]]
  have hb : SoundB P 28 [.box (.agg [.int .i64 r.cap, .int .i64 r.sent, .lst true 3 (r.items.map (encMsg true)), .int .i64 r.next, .lst true 7 (r.subs.map (encSub true)), .lst true 1 (r.line.map encInt), .lst true 1 ((r.grants.filter fun x => !(x == id)).map encInt), .bool r.closed]), .int .i64 id] 0 (.tup [encTold false (readT (goR r id) s), .int .i64 (readC (goR r id) s)]) (.box (encRing true (waitR (goR r id) k s id))) :=
    wait0_impl (goR r id) id k s rfl (go_fit hr id) (go_read hI id) hk hks l4
  obtain ⟨q, hq⟩ : ∃ q, waitR (goR r id) k s id = q := ⟨_, rfl⟩
  obtain ⟨T, hT⟩ : ∃ T, readT (goR r id) s = T := ⟨_, rfl⟩
  obtain ⟨c, hc⟩ : ∃ c, readC (goR r id) s = c := ⟨_, rfl⟩
  rw [hq, hT, hc] at hb
  rw [hq, hT, hc]
  clear hK hI hq hT hc hid
  all_goals (
    exact wFnPr7_0)
noncomputable abbrev ic_impl_Proceed := Con.mk (P := P) (f := 7) Tryz.call7 @c_impl_Proceed
attribute [instance] ic_impl_Proceed
theorem c_spec_Proceed (r : RingV) (id : Int) {u : AV} (hu : u = encRing false r) (hr : okRing r) (hw : wRing r ≤ 4194304) (l1 : r.line.length ≤ 1048576) (l2 : r.grants.length ≤ 1048576) (l3 : r.items.length ≤ 1048576) : Sound P 5 [u, .int .i64 id] (.tup [encRing true (procR r id), encTold false (procT r id), .int .i64 (procC r id)]) := by
  subst hu
  have m1 : r.line.length < 4611686018427387904 := by omega
  have m2 : r.grants.length < 4611686018427387904 := by omega
  have l4 : r.line.length ≤ 4194304 := by omega
  have l5 : r.grants.length ≤ 4194304 := by omega
  have hl : r.subs.length < 4611686018427387904 := hr.2.1.1
  cases hB : ringB r
  have hK := proc_none (id := id) (.inl hB)
  rw [show procR r id = r by simp only [procR, hK], show procT r id = noTold by simp only [procT, hK], show procC r id = 1 by simp [procC, hK, hB]]
  clear hK
  rotate_left
  rcases (by cases r.line.any (· == id) <;> cases r.grants.any (· == id) <;> simp : r.line.any (· == id) = true ∨ (r.line.any (· == id) = false ∧ r.grants.any (· == id) = false) ∨ (r.line.any (· == id) = false ∧ r.grants.any (· == id) = true)) with hL | hL | hL
  have hK := proc_none (id := id) (.inr (.inl hL))
  rw [show procR r id = r by simp only [procR, hK], show procT r id = noTold by simp only [procT, hK], show procC r id = 4 by simp only [procC, hK, hB, if_true, hL]]
  clear hK
  rotate_left
  obtain ⟨hL, hG⟩ := hL
  have hK := proc_none (id := id) (.inr (.inr hG))
  rw [show procR r id = r by simp only [procR, hK], show procT r id = noTold by simp only [procT, hK], show procC r id = 3 by simp only [procC, hK, hB, hL, if_true, Bool.false_eq_true, if_false]]
  clear hK
  rotate_left
  obtain ⟨hL, hG⟩ := hL
  have hI := ringIs hB
  obtain ⟨k, s, hk, hkl, hks, hid⟩ := atI_at (hI.found hG)
  have hK := proc_some hB hk hks hL hG
  rw [show procR r id = waitR (goR r id) k s id by simp only [procR, hK], show procT r id = readT (goR r id) s by simp only [procT, hK], show procC r id = readC (goR r id) s by simp only [procC, hK]]
  have n2 := less1_nodup (n := id) hI.grants
  have hb : Sound P 19 [.agg [.int .i64 r.cap, .int .i64 r.sent, .lst true 3 (r.items.map (encMsg true)), .int .i64 r.next, .lst true 7 (r.subs.map (encSub true)), .lst true 1 (r.line.map encInt), .lst true 1 ((r.grants.filter fun x => !(x == id)).map encInt), .bool r.closed], .int .i64 (k : Int)] (.tup [encRing true (waitR (goR r id) k s s.id), encTold false (readT (goR r id) s), .int .i64 (readC (goR r id) s)]) :=
    wait0_spec (goR r id) k s rfl (go_fit hr id) (go_read hI id) hks l4
  rw [show s.id = id by simpa using hid, ← n2, ← hk] at hb
  obtain ⟨q, hq⟩ : ∃ q, waitR (goR r id) k s id = q := ⟨_, rfl⟩
  obtain ⟨T, hT⟩ : ∃ T, readT (goR r id) s = T := ⟨_, rfl⟩
  obtain ⟨c, hc⟩ : ∃ c, readC (goR r id) s = c := ⟨_, rfl⟩
  rw [hq, hT, hc] at hb
  rw [hq, hT, hc]
  clear hK hI hq hT hc hid n2 hk
  all_goals (
    exact wFnPr5_0)
noncomputable abbrev ic_spec_Proceed := Con.mk (P := P) (f := 5) Tryz.call5 @c_spec_Proceed
attribute [instance] ic_spec_Proceed
theorem ring_lensP {r : RingV} (h : wRing r ≤ 1048576) : r.line.length ≤ 1048576 ∧ r.grants.length ≤ 1048576 ∧ r.items.length ≤ 1048576 ∧ r.subs.length ≤ 1048576 := by
  simp only [wRing, wMsgS, wSubS, wIntS] at h
  omega
theorem c_laws_FnExactProceed (r : RingV) (id : Int) {u : AV} (hu : u = encRing false r) (hr : okRing r) : Sound P 3 [u, .int .i64 id] (.bool true) := by
  subst hu
  have h0 : decide ((1048576 : Int) < 0) = false := by decide
  have h1 : (1048576 : Int) ≤ 1048576 := by omega
  rcases szW_cases (wRing r) 1048576 with ⟨hw, hz⟩ | ⟨hw, hz⟩
  · have hwn : wRing r ≤ 1048576 := by omega
    have hw4 : wRing r ≤ 4194304 := by omega
    obtain ⟨l1, l2, l3, _⟩ := ring_lensP hwn
    have hg : decide ((1048576 : Int) - (wRing r : Int) < 0) = false := decide_eq_false (by omega)
    have hqw := proc_w r id
    have hTw := proc_t r id
    obtain ⟨q, hq⟩ : ∃ q, procR r id = q := ⟨_, rfl⟩
    obtain ⟨T, hTT⟩ : ∃ T, procT r id = T := ⟨_, rfl⟩
    obtain ⟨c, hc⟩ : ∃ c, procC r id = c := ⟨_, rfl⟩
    rw [hq] at hqw
    rw [hTT] at hTw
    have hq4 : wRing q ≤ 4194304 := by omega
    have hT4 : wTold T ≤ 4194304 := by omega
    have t1 := mt10Ring r
    have t2 := mt10Ring q
    have hk1 : 1 + ((mtRingW r : Nat) : Int) ≤ 1099511627776 := by omega
    have hb1 : decide (1 + ((mtRingW r : Nat) : Int) < 0) = false := by simp; omega
    have hk2 : 1 + ((mtRingW q : Nat) : Int) ≤ 1099511627776 := by omega
    have hb2 : decide (1 + ((mtRingW q : Nat) : Int) < 0) = false := by simp; omega
    have hp : (0 : Int) ≤ 1 := by omega
    clear hqw hTw t1 t2 hwn
    exact wFnPr3_0
  · have hg : decide ((-1 : Int) < 0) = true := by decide
    exact wFnPr3_0
noncomputable abbrev ic_laws_FnExactProceed := Con.mk (P := P) (f := 3) Tryz.call3 @c_laws_FnExactProceed
attribute [instance] ic_laws_FnExactProceed
end Go.Proofs.YtlgdijjkegeccaaGreat
