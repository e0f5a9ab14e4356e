/- Contracts: Receive and Peek, of the program. -/
import Derived.Test.YtlgdijjkegeccaaFnRw
import Derived.Test.YtlgdijjkegeccaaFnS
import Derived.Test.YtlgdijjkegeccaaFnCp
import Derived.Test.YtlgdijjkegeccaaBvM5
namespace Go.Proofs.Ytlgdijjkegeccaa
open Go Go.RowKit Go.Bv
set_option linter.unusedSimpArgs false
set_option linter.unusedVariables false
set_option maxRecDepth 4000
set_option maxHeartbeats 8000000
/-! The walks that end. -/
theorem sFnRc21 {p q : Prop} (k : q) (h : q → p := by
  first
  | exact shAR 9 (by exact i_W hT [[], [], [], [0], [0, 1, 3], [0, 1, 2, 3, 4]] [[(43, _)], [(44, _)], [(45, _)], [(4, _), (7, _), (16, _), (23, _), (36, _), (43, _)], [(5, _)], [(6, _)]] (by decide +kernel) (by refine st_o [3, 4, 5] ?_; refine st_o [4, 5] ?_; refine st_o [5] ?_; refine st_o [4, 5] ?_; refine st_o [5] ?_; refine st_o [] ?_; exact steps_nil))
  | exact i1
  | fail) : p := h k
theorem wFnRc21_0 {p : Prop} (h : p := by
  have E0 := @encRing.eq_1
  have E1 := @zeroRing.eq_1
  have E2 := @zeroTold.eq_1
  have E3 := @encTold.eq_1
  have E4 := @encMsg.eq_1
  refine snd_b hT Try.func21 Try.results21 Try.ntmps21 ?_
  repeat' (first | refine sFnRc21 ?_ | (refine two ?_ ?_; all_goals (intro h; try simp only [Bool.not_eq_true', Bool.not_eq_false', reduceCtorEq] at h)) | fail)
  all_goals (simp only [go_sem, *]; first | done | rfl)) : p := h
theorem wFnRc17_0 {p : Prop} (h : p := by
  have E0 := @encRing.eq_1
  have E1 := @zeroRing.eq_1
  have E2 := @zeroTold.eq_1
  have E3 := @encTold.eq_1
  have E4 := @encMsg.eq_1
  refine snd_b hT Try.func17 Try.results17 Try.ntmps17 ?_
  repeat' (first | refine oneF ?_ | (refine two ?_ ?_; all_goals (intro h; try simp only [Bool.not_eq_true', Bool.not_eq_false', reduceCtorEq] at h)) | fail)
  all_goals (simp only [go_sem, *]; first | done | rfl)) : p := h
-- VIEWS

def busyB (r : RingV) (id : Int) : Bool := r.line.any (· == id) || r.grants.any (· == id)
/-- Which Sub reads. -/
def recvK (r : RingV) (id : Int) : Option (Nat × SubV) := if ringB r && !decide (atI r.subs id < 0) && !busyB r id then (match r.subs[(atI r.subs id).toNat]? with
  | some s => some ((atI r.subs id).toNat, s)
  | none => none) else none
def recvR (r : RingV) (id : Int) : RingV := match recvK r id with
  | some (k, s) => waitR r k s id
  | none => r
def recvT (r : RingV) (id : Int) : ToldV := match recvK r id with
  | some (_, s) => readT r s
  | none => noTold
def recvC (r : RingV) (id : Int) : Int := match recvK r id with
  | some (_, s) => readC r s
  | none => if ringB r then (if atI r.subs id < 0 then 3 else 5) else 1
theorem recv_some {r : RingV} {id : Int} {k : Nat} {s : SubV} (hB : ringB r = true) (hk : atI r.subs id = k) (hks : r.subs[k]? = some s) (hu : busyB r id = false) : recvK r id = some (k, s) := by
  have h : decide ((k : Int) < 0) = false := decide_eq_false (by omega)
  simp only [recvK, hB, hk, h, hu, Bool.not_false, Bool.and_self, if_true, Int.toNat_natCast, hks]
theorem recv_none {r : RingV} {id : Int} (h : ringB r = false ∨ atI r.subs id < 0 ∨ busyB r id = true) : recvK r id = none := by
  unfold recvK
  rw [if_neg]
  rcases h with h | h | h <;> simp [h]
theorem recv_at {r : RingV} {id : Int} {k : Nat} {s : SubV} (h : recvK r id = some (k, s)) : ringB r = true ∧ r.subs[k]? = some s := by
  unfold recvK at h
  split at h
  · rename_i hc
    simp only [Bool.and_eq_true] at hc
    split at h
    · rename_i q hq
      simp only [Option.some.injEq, Prod.mk.injEq] at h
      obtain ⟨rfl, rfl⟩ := h
      exact ⟨hc.1.1, hq⟩
    · cases h
  · cases h
theorem wait_w {r : RingV} {k : Nat} {s : SubV} (hI : ReadIs r) (hs : r.subs[k]? = some s) (id : Int) : wRing (waitR r k s id) ≤ wRing r + 1 := by
  have h1 : wRing (readR r k s) ≤ wRing r := by
    refine Nat.le_trans (trim_w _) ?_
    have := (⟨by rw [List.getElem?_set_self (List.getElem?_eq_some_iff.1 hs).1], by simp, rfl⟩ : Turn r.subs _ _ (readS r s)).w hs (readS_fit hI hs).2.1
    simp only [readK, wRing, this]; omega
  unfold waitR
  split
  · have : ∀ f : List Int, wIntS f = f.length := fun f => by rw [wIntS, sumL_zero wInt fun _ => rfl, Nat.add_zero]
    have e : (readR r k s).line = r.line := rfl
    simp only [wRing, this, List.length_append, List.length_cons, List.length_nil, e] at h1 ⊢
    omega
  · omega
theorem recv_w (r : RingV) (id : Int) : wRing (recvR r id) ≤ wRing r + 1 := by
  unfold recvR
  split
  · rename_i h
    obtain ⟨hB, hs⟩ := recv_at h
    exact wait_w (ringIs hB).read hs id
  · omega
theorem read_t {r : RingV} {s : SubV} : wTold (readT r s) ≤ wRing r := by
  unfold readT
  split
  · exact Nat.zero_le _
  · split
    · rename_i m hm
      have h2 : m ∈ r.items := List.mem_of_mem_drop (List.mem_of_getElem? (show (aheadL r s)[passN r s]? = some m from hm))
      obtain ⟨i, hi⟩ := List.getElem?_of_mem h2
      have := sumL_mem wMsg hi
      simp only [wTold, wRing, wMsgS]
      omega
    · exact Nat.zero_le _
theorem recv_t (r : RingV) (id : Int) : wTold (recvT r id) ≤ wRing r := by
  unfold recvT
  split
  · exact read_t
  · exact Nat.zero_le _
theorem c_impl_Receive (r : RingV) (id : Int) {u : AV} (hu : u = encRing false r) (hr : okRing r) (hw : wRing r ≤ 4194304) (l1 : r.line.length ≤ 1048576) (l2 : r.grants.length ≤ 1048576) : Sound P 21 [u, .int .i64 id] (.tup [encRing true (recvR r id), encTold false (recvT r id), .int .i64 (recvC r id)]) := by
  subst hu
  have m1 : r.line.length < 4611686018427387904 := by omega
  have m2 : r.grants.length < 4611686018427387904 := by omega
  have l4 : r.line.length ≤ 4194304 := by omega
  have hl : r.subs.length < 4611686018427387904 := hr.2.1.1
  cases hB : ringB r
  have hK := recv_none (id := id) (.inl hB)
  rw [show recvR r id = r by simp only [recvR, hK], show recvT r id = noTold by simp only [recvT, hK], show recvC r id = 1 by simp [recvC, hK, hB]]
  clear hK
  rotate_left
  by_cases hneg : atI r.subs id < 0
  have hK := recv_none (id := id) (.inr (.inl hneg))
  have hg : decide (atI r.subs id < 0) = true := decide_eq_true hneg
  rw [show recvR r id = r by simp only [recvR, hK], show recvT r id = noTold by simp only [recvT, hK], show recvC r id = 3 by simp [recvC, hK, hB, hneg]]
  clear hK
  rotate_left
  obtain ⟨k, s, hk, hkl, hks, hid⟩ := atI_at (f := r.subs) (id := id) (by omega)
  have hg : decide ((k : Int) < 0) = false := decide_eq_false (by omega)
  rcases (by cases r.line.any (· == id) <;> cases r.grants.any (· == id) <;> simp : (r.line.any (· == id) = false ∧ r.grants.any (· == id) = false) ∨ r.line.any (· == id) = true ∨ (r.line.any (· == id) = false ∧ r.grants.any (· == id) = true)) with hL | hL | hL
  rotate_left
  have hK := recv_none (id := id) (.inr (.inr (show busyB r id = true by simp only [busyB, hL, Bool.true_or])))
  rw [show recvR r id = r by simp only [recvR, hK], show recvT r id = noTold by simp only [recvT, hK], show recvC r id = 5 by simp only [recvC, hK, hB, if_true, if_neg hneg]]
  clear hK hneg
  rotate_left
  obtain ⟨hL, hG⟩ := hL
  have hK := recv_none (id := id) (.inr (.inr (show busyB r id = true by simp only [busyB, hL, hG, Bool.false_or])))
  rw [show recvR r id = r by simp only [recvR, hK], show recvT r id = noTold by simp only [recvT, hK], show recvC r id = 5 by simp only [recvC, hK, hB, if_true, if_neg hneg]]
  clear hK hneg
  rotate_left
  rotate_left
  rotate_left
  obtain ⟨hL, hG⟩ := hL
  have hK := recv_some hB hk hks (show busyB r id = false by simp only [busyB, hL, hG, Bool.or_self])
  rw [show recvR r id = waitR r k s id by simp only [recvR, hK], show recvT r id = readT r s by simp only [recvT, hK], show recvC r id = readC r s by simp only [recvC, hK]]
  have hI := ringIs hB
  have hb : SoundB P 78 [.box (.agg [.int .i64 r.cap, .int .i64 r.sent, .lst true 3 (r.items.map (encMsg true)), .int .i64 r.next, .lst true 7 (r.subs.map (encSub true)), .lst true 1 (r.line.map encInt), .lst true 1 (r.grants.map encInt), .bool r.closed]), .int .i64 id] 0 (.tup [encTold false (readT r s), .int .i64 (readC r s)]) (.box (encRing true (waitR r k s id))) :=
    wait0_impl r id k s rfl hr hI.read hk hks l4
  obtain ⟨q, hq⟩ : ∃ q, waitR r k s id = q := ⟨_, rfl⟩
  obtain ⟨T, hT⟩ : ∃ T, readT r s = T := ⟨_, rfl⟩
  obtain ⟨c, hc⟩ : ∃ c, readC r s = c := ⟨_, rfl⟩
  rw [hq, hT, hc] at hb
  rw [hq, hT, hc]
  clear hK hneg hI hq hT hc hid
  all_goals (
    exact wFnRc21_0)
noncomputable abbrev ic_impl_Receive := Con.mk (P := P) (f := 21) Try.call21 @c_impl_Receive
attribute [instance] ic_impl_Receive
theorem c_impl_Peek (r : RingV) (id : Int) {u : AV} (hu : u = encRing false r) (hr : okRing r) (hw : wRing r ≤ 4194304) (l1 : r.line.length ≤ 1048576) (l2 : r.grants.length ≤ 1048576) : Sound P 17 [u, .int .i64 id] (.tup [encTold false (recvT r id), .int .i64 (recvC r id)]) := by
  subst hu
  exact wFnRc17_0
noncomputable abbrev ic_impl_Peek := Con.mk (P := P) (f := 17) Try.call17 @c_impl_Peek
attribute [instance] ic_impl_Peek
end Go.Proofs.Ytlgdijjkegeccaa
