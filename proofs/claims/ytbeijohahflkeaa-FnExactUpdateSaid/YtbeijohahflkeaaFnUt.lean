/- The law FnExactUpdate returns true of every cell and change. -/
import Derived.Test.YtbeijohahflkeaaFnUs
import Derived.Test.YtbeijohahflkeaaBvM5
import Derived.Test.YtbeijohahflkeaaBvUx
namespace Go.Proofs.Ytbeijohahflkeaa
open Go Go.RowKit Go.Bv
set_option linter.unusedSimpArgs false
set_option linter.unusedVariables false
set_option maxRecDepth 4000
set_option maxHeartbeats 8000000
/-! The walks that end. -/
theorem sFnUt3 {p q : Prop} (k : q) (h : q → p := by
  first
  | exact shAL (by exact i_l (f := 12) 0 _)
  | exact shAL (by exact i_l (f := 13) 0 _)
  | exact shAR 13 (by exact i_S hT [[], [], [1], [0, 1, 2], [0, 1, 2, 3]] [63, 64, 65, 66, 67])
  | exact shAR 8 (by exact i_U hT [[], [0], [], [0, 1, 2], [0, 1, 2, 3], [0, 1, 2, 3, 4], [0, 1, 2, 3, 4, 5], [0, 1, 2, 3, 4, 5], [0, 1, 2, 3, 4, 5], [], [0, 1, 2, 3, 4, 5, 6, 9], [0, 1, 2, 3, 4, 5, 6, 7, 9, 10], [0, 1, 2, 3, 4, 5, 6, 7, 8, 9, 10, 11]] [[(30, .v _)], [(31, .v _)], [(32, .v _)], [(33, .v _)], [(34, .v _)], [(29, .v _), (34, .v _)], [(35, .v _), (29, .h 0)], [(36, .v _), (29, .h 1)], [(37, .v _), (29, .h 2)], [(6, .v (.box (.agg [.agg [.int .i64 0, .int .i64 0, .str { data := #[] }], .int .i64 0, .bool false, .lst true 1 [], .lst true 1 []])))], [(6, .v _), (35, .v _)], [(7, .v _)], [(8, .v _)]] (by decide +kernel) (by refine st_oU [1, 3, 4, 5, 6, 7, 8, 10, 11, 12] ?_; refine st_oU [3, 4, 5, 6, 7, 8, 10, 11, 12] ?_; refine st_oU [3, 4, 5, 6, 7, 8, 10, 11, 12] ?_; refine st_oU [4, 5, 6, 7, 8, 10, 11, 12] ?_; refine st_oU [5, 6, 7, 8, 10, 11, 12] ?_; refine st_oU [6, 7, 8, 10, 11, 12] ?_; refine st_oU [10, 11, 12] ?_; refine st_oU [11, 12] ?_; refine st_oU [12] ?_; refine st_oU [10, 11, 12] ?_; refine st_oU [11, 12] ?_; refine st_oU [12] ?_; refine st_oU [] ?_; exact steps_nil))
  | exact shAR 10 (by exact i_U hT [[], [], [1], [0, 1, 2], [0, 1, 2, 3], [0, 1, 2, 3, 4], [0, 1, 2, 3, 4], [0, 1, 2, 3, 4], [], [0, 1, 2, 3, 4, 5, 8], [0, 1, 2, 3, 4, 5, 6, 8, 9], [0, 1, 2, 3, 4, 5, 6, 7, 8, 9, 10]] [[(41, .v _)], [(42, .v _)], [(43, .v _)], [(44, .v _)], [(40, .v _), (44, .v _)], [(45, .v _), (40, .h 0)], [(46, .v _), (40, .h 1)], [(47, .v _), (40, .h 2)], [(10, .v (.box (.agg [.agg [.int .i64 0, .int .i64 0, .str { data := #[] }], .int .i64 0, .bool false, .lst true 1 [], .lst true 1 []])))], [(10, .v _), (45, .v _)], [(11, .v _)], [(12, .v _)]] (by decide +kernel) (by refine st_oU [3, 4, 5, 6, 7, 9, 10, 11] ?_; refine st_oU [2, 3, 4, 5, 6, 7, 9, 10, 11] ?_; refine st_oU [3, 4, 5, 6, 7, 9, 10, 11] ?_; refine st_oU [4, 5, 6, 7, 9, 10, 11] ?_; refine st_oU [5, 6, 7, 9, 10, 11] ?_; refine st_oU [9, 10, 11] ?_; refine st_oU [10, 11] ?_; refine st_oU [11] ?_; refine st_oU [9, 10, 11] ?_; refine st_oU [10, 11] ?_; refine st_oU [11] ?_; refine st_oU [] ?_; exact steps_nil))
  | exact shAR 31 (by exact i_U hT [[], [0], [], [0, 1, 2], [0, 1, 2, 3], [0, 1, 2, 3, 4], [0, 1, 2, 3, 4, 5], [0, 1, 2, 3, 4, 5], [0, 1, 2, 3, 4, 5], [], [0, 1, 2, 3, 4, 5, 6, 9], [0, 1, 2, 3, 4, 5, 6, 7, 9, 10], [0, 1, 2, 3, 4, 5, 6, 7, 8, 9, 10, 11]] [[(110, .v _)], [(111, .v _)], [(112, .v _)], [(113, .v _)], [(114, .v _)], [(109, .v _), (114, .v _)], [(115, .v _), (109, .h 0)], [(116, .v _), (109, .h 1)], [(117, .v _), (109, .h 2)], [(16, .v (.box (.agg [.agg [.int .i64 0, .int .i64 0, .str { data := #[] }], .int .i64 0, .bool false, .lst true 1 [], .lst true 1 []])))], [(16, .v _), (115, .v _)], [(17, .v _)], [(18, .v _)]] (by decide +kernel) (by refine st_oU [1, 3, 4, 5, 6, 7, 8, 10, 11, 12] ?_; refine st_oU [3, 4, 5, 6, 7, 8, 10, 11, 12] ?_; refine st_oU [3, 4, 5, 6, 7, 8, 10, 11, 12] ?_; refine st_oU [4, 5, 6, 7, 8, 10, 11, 12] ?_; refine st_oU [5, 6, 7, 8, 10, 11, 12] ?_; refine st_oU [6, 7, 8, 10, 11, 12] ?_; refine st_oU [10, 11, 12] ?_; refine st_oU [11, 12] ?_; refine st_oU [12] ?_; refine st_oU [10, 11, 12] ?_; refine st_oU [11, 12] ?_; refine st_oU [12] ?_; refine st_oU [] ?_; exact steps_nil))
  | exact i1
  | fail) : p := h k
theorem wFnUt3_0 {p : Prop} (h : p := by
  have E0 := @encCell.eq_1
  have E1 := @encMsg.eq_1
  have E2 := @encChange.eq_1
  refine snd_b hT Try.func3 Try.results3 Try.ntmps3 ?_
  repeat' (first | refine sFnUt3 ?_ | (refine two ?_ ?_; all_goals (intro h; try simp only [Bool.not_eq_true', Bool.not_eq_false', reduceCtorEq] at h)) | fail)
  all_goals (simp only [go_sem, *]; first | done | rfl)) : p := h
theorem wFnUt3_1 {p : Prop} (h : p := by
  have E0 := @encCell.eq_1
  have E1 := @encMsg.eq_1
  have E2 := @encChange.eq_1
  have E3 := @zeroCell.eq_1
  refine snd_b hT Try.func3 Try.results3 Try.ntmps3 ?_
  repeat' (first | refine sFnUt3 ?_ | (refine two ?_ ?_; all_goals (intro h; try simp only [Bool.not_eq_true', Bool.not_eq_false', reduceCtorEq] at h)) | fail)
  all_goals (simp only [go_sem, *]; first | done | rfl)) : p := h

theorem as_movetup {P : Program} {ops : Array Oper} {o : Oper} {S : List AV} {t : Nat} {vs S' : List AV} (hg : gchk ops S o = some true) (ho : o.op = .move (.tmp t)) (ht : S[t]? = some (.tup vs)) (hp : aput o.dst (.tup vs) (S.set t .undef) = S') : AS P ops o S S' := by
  subst hp
  exact .inl ⟨hg, ao_movetup ho ht⟩
theorem cell_lens {c : CellV} (h : wCell c ≤ 1048576) : c.line.length ≤ 1048576 ∧ c.grants.length ≤ 1048576 := by
  simp only [wCell, wIntS] at h
  omega
theorem c_laws_FnExactUpdate (c : CellV) (x : ChangeV) {u v : AV} (hu : u = encCell false c) (hv : v = encChange false x) (hc : okCell c) (hx : okChange x) : Sound P 3 [u, v] (.bool true) := by
  subst hu hv
  have h0 : decide ((1048576 : Int) < 0) = false := by decide
  have h1 : (1048576 : Int) ≤ 1048576 := by omega
  have hm := hc.1
  have hx2 : okMsg x.msg := hx
  rcases szW_cases (wCell c) 1048576 with ⟨hw, hz⟩ | ⟨hw, hz⟩
  rotate_left
  · have hg : decide ((-1 : Int) < 0) = true := by decide
    exact wFnUt3_0
  have hg : decide ((1048576 : Int) - (wCell c : Int) < 0) = false := decide_eq_false (by omega)
  have h2 : (1048576 : Int) - (wCell c : Int) ≤ 1048576 := by omega
  rcases szW_cases (wChange x) (1048576 - (wCell c : Int)) with ⟨hv, hy⟩ | ⟨hv, hy⟩
  rotate_left
  · have hg2 : decide ((-1 : Int) < 0) = true := by decide
    exact wFnUt3_0
  have hg2 : decide ((1048576 : Int) - (wCell c : Int) - (wChange x : Int) < 0) = false := decide_eq_false (by omega)
  have hwn : wCell c ≤ 1048576 := by omega
  have hw4 : wCell c ≤ 4194304 := by omega
  have hx4 : wChange x ≤ 4194304 := by omega
  obtain ⟨l1, l2⟩ := cell_lens hwn
  have hqw := upd_w c x (chg_w c.val x)
  have hLw := upd_l c x
  obtain ⟨q, hq⟩ : ∃ q, updR c x = q := ⟨_, rfl⟩
  obtain ⟨L, hL⟩ : ∃ L, updL c x = L := ⟨_, rfl⟩
  obtain ⟨n, hn⟩ : ∃ n, updC c x = n := ⟨_, rfl⟩
  rw [hq] at hqw
  rw [hL] at hLw
  have hq4 : wCell q ≤ 4194304 := by omega
  have hL4 : wIntS L ≤ 4194304 := by omega
  have t1 := mt10Cell c
  have t2 := mt10Cell q
  have t3 := mw10IntS L
  have hk1 : 1 + ((mtCellW c : Nat) : Int) ≤ 1099511627776 := by omega
  have hb1 : decide (1 + ((mtCellW c : Nat) : Int) < 0) = false := decide_eq_false (by omega)
  have hk2 : 1 + ((mtCellW q : Nat) : Int) ≤ 1099511627776 := by omega
  have hb2 : decide (1 + ((mtCellW q : Nat) : Int) < 0) = false := decide_eq_false (by omega)
  have hk3 : 0 ≤ 1 + ((mtCellW q : Nat) : Int) := by omega
  have hk4 : 1 + ((mtCellW q : Nat) : Int) + ((mwIntS L : Nat) : Int) ≤ 1099511627776 := by omega
  have hb3 : decide (1 + ((mtCellW q : Nat) : Int) + ((mwIntS L : Nat) : Int) < 0) = false := decide_eq_false (by omega)
  have hp : (0 : Int) ≤ 1 := by omega
  have htk : List.take L.length (List.map encInt (mkIntS L (1 + ((mtCellW q : Nat) : Int)))) = List.map encInt (mkIntS L (1 + ((mtCellW q : Nat) : Int))) := List.take_of_length_le (by rw [List.length_map, show (mkIntS L (1 + ((mtCellW q : Nat) : Int))).length = L.length from mkL_len _ _ _ _]; exact Nat.le_refl _)
  clear hqw hLw t1 t2 t3 hwn hw hv
  exact wFnUt3_1
noncomputable abbrev ic_laws_FnExactUpdate := Con.mk (P := P) (f := 3) Try.call3 @c_laws_FnExactUpdate
attribute [instance] ic_laws_FnExactUpdate
end Go.Proofs.Ytbeijohahflkeaa
