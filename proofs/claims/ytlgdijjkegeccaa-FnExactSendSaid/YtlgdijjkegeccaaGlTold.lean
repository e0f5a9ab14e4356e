/- Contracts of the law's helpers: Told. -/
import Derived.Test.YtlgdijjkegeccaaKA
import Derived.Test.YtlgdijjkegeccaaKG
import Derived.Test.YtlgdijjkegeccaaKM
namespace Go.Proofs.Ytlgdijjkegeccaa
open Go Go.RowKit Go.Bv
set_option linter.unusedSimpArgs false
set_option linter.unusedVariables false
set_option maxRecDepth 4000
set_option maxHeartbeats 1000000
/-! The walks that end. -/
theorem wGlTold27_0 {p : Prop} (h : p := by
  repeat' (first | refine one ?_ | (refine two ?_ ?_; all_goals (intro h; try simp only [Bool.not_eq_true', Bool.not_eq_false', reduceCtorEq] at h)) | fail)
  all_goals ((simp only [go_sem, *]); first | done | rfl)) : p := h
theorem sGlTold28 {p q : Prop} (k : q) (h : q → p := by
  first
  | exact shAR 13 (by exact i_S hT [[], [], [0, 1], [0, 1, 2], [0, 1, 2, 3], [0, 1, 2, 3, 4], [], [6], [0, 1, 2, 3, 4, 5, 6, 7]] [41, 42, 43, 44, 45, 46, 47, 48, 49])
  | exact i1
  | fail) : p := h k
theorem wGlTold28_0 {p : Prop} (h : p := by
  repeat' (first | refine sGlTold28 ?_ | (refine two ?_ ?_; all_goals (intro h; try simp only [Bool.not_eq_true', Bool.not_eq_false', reduceCtorEq] at h)) | fail)
  all_goals (simp only [go_sem, *]; first | done | rfl)) : p := h
theorem sGlTold26 {p q : Prop} (k : q) (h : q → p := by
  first
  | exact shAR 6 (by exact i_S hT [[], [], [0, 1], [0, 1, 2], [], [], [4, 5], [4, 5, 6], [0, 1, 2, 3, 4, 5, 6, 7], [0, 1, 2, 3, 4, 5, 6, 7, 8]] [17, 18, 19, 20, 21, 22, 23, 24, 25, 26])
  | exact i1
  | fail) : p := h k
structure ToldV where
  kind : Int
  msg : MsgV
  index : Int
  n : Int
def encTold (o : Bool) (x : ToldV) : AV := .agg [.int .i64 x.kind, (encMsg o) x.msg, .int .i64 x.index, .int .i64 x.n]
theorem ash_Told (o : Bool) (x : ToldV) : ash (encTold o x) = encTold false x := by simp only [encTold, ash, ashs, ash_Msg]
theorem plA_Told (o : Bool) (x : ToldV) : plA (encTold o x) = true := by simp only [encTold, plA, plAs, Bool.and_self, plA_Msg]
theorem noSh_Told (x : ToldV) : noSh (encTold true x) = true := by simp only [encTold, noSh, noShs, Bool.and_self, noSh_Msg]
attribute [go_sem] ash_Told plA_Told noSh_Told
def wTold (x : ToldV) : Nat := wMsg x.msg
def okTold (x : ToldV) : Prop := okMsg x.msg
def meTold (x : ToldV) (k : Int) : ToldV := { kind := k, msg := { kind := k + 1, num := k + 1 + 1, text := mText (k + 1 + 1 + 1) }, index := k + 1 + 1 + 1 + 1, n := k + 1 + 1 + 1 + 1 + 1 }
def mwTold (x : ToldV) : Nat := 6
theorem mw10Told (x : ToldV) : mwTold x ≤ 10 * (1 + wTold x) := by
  skip
  simp only [mwTold, wTold, wMsg]; omega
def wToldS (f : List ToldV) : Nat := f.length + sumL wTold f
def okToldS (f : List ToldV) : Prop := f.length < 4611686018427387904 ∧ ∀ x ∈ f, okTold x
def mkToldS (f : List ToldV) (k : Int) : List ToldV := mkL meTold mwTold f k
def mwToldS (f : List ToldV) : Nat := sumL mwTold f
theorem mw10ToldS (f : List ToldV) : mwToldS f ≤ 10 * wToldS f := sum10 mw10Told f
theorem ashs_Told (o : Bool) (f : List ToldV) : ashs (f.map (encTold o)) = f.map (encTold false) := ashs_map (g := (encTold o)) (h := (encTold false)) (fun x => ash_Told o x) f
theorem plAs_Told (o : Bool) (f : List ToldV) : plAs (f.map (encTold o)) = true := plAs_map (g := (encTold o)) (fun x => plA_Told o x) f
theorem alen_Told (o : Bool) (f : List ToldV) : ((f.map (encTold o)).all fun u => alen u == 6) = true := alen_map (g := (encTold o)) (fun x => rfl) f
theorem noShs_Told (f : List ToldV) : noShs (f.map (encTold true)) = true := noShs_map (g := (encTold true)) (fun x => noSh_Told x) f
theorem leafAs_Told (o : Bool) (f : List ToldV) : leafAs (f.map (encTold o)) = true := leafAs_map (g := (encTold o)) (fun x => rfl) f
attribute [go_sem] ashs_Told plAs_Told alen_Told noShs_Told leafAs_Told
def zeroTold : AV := .agg [.int .i64 0, .agg [.int .i64 0, .int .i64 0, .str { data := #[] }], .int .i64 0, .int .i64 0]
theorem c_laws_eqTold (x : ToldV) {u v : AV} (hu : u = encTold false x) (hv : v = encTold false x) (hw : wTold x ≤ 4194304) : Sound P 18 [u, v] (.bool true) := by
  subst hu hv
  have hw1 : wMsg x.msg ≤ 4194304 := by simp only [wTold] at hw; omega
  clear hw
  refine snd_b hT Try.func18 Try.results18 Try.ntmps18 ?_
  (all_goals (have E0 := @encTold.eq_1))
  (all_goals (have E1 := @encMsg.eq_1))
  repeat' (first | refine one ?_ | (refine two ?_ ?_; all_goals (intro h; try simp only [Bool.not_eq_true', Bool.not_eq_false', reduceCtorEq] at h)) | fail)
  all_goals (try clear E0 E1)
  all_goals (simp only [go_sem, *])
noncomputable abbrev ic_laws_eqTold := Con.mk (P := P) (f := 18) Try.call18 @c_laws_eqTold
attribute [instance] ic_laws_eqTold
theorem c_laws_eqToldS (f : List ToldV) (hw : wToldS f ≤ 4194304) : Sound P 26 [.lst false 6 (f.map (encTold false)), .lst false 6 (f.map (encTold false))] (.bool true) := by
  have hl : f.length ≤ 4194304 := Nat.le_trans (Nat.le_add_right _ _) hw
  refine snd_b hT Try.func26 Try.results26 Try.ntmps26 ?_
  repeat' (first | refine sGlTold26 ?_ | (refine two ?_ ?_; all_goals (intro h; try simp only [Bool.not_eq_true', Bool.not_eq_false', reduceCtorEq] at h)) | fail)
  refine aw_loop [2, 3, 6, 7, 8, 9, 10, 11, 12, 13, 14, 15, 16, 17, 18, 19, 20, 21, 22, 23, 24, 25, 26] (fun n S => ∃ i : Nat, n = f.length - i ∧ i ≤ f.length ∧ S = [.lst false 6 (f.map (encTold false)), .lst false 6 (f.map (encTold false)), .undef, .undef, .bool false, .int .i64 i, .undef, .undef, .undef, .undef, .undef, .undef, .undef, .undef, .undef, .undef, .undef, .undef, .undef, .undef, .undef, .undef, .undef, .undef, .undef, .undef, .undef]) f.length ?_ ?_
  · refine ⟨0, by simp, by omega, ?_⟩
    simp only [clr, go_sem]
    first | done | rfl
  · rintro n S ⟨i, hn, hi, rfl⟩
    have hwi : IntKind.i64.wrap ((i : Int) + 1) = ((i + 1 : Nat) : Int) := by rw [wrap_small] <;> omega
    by_cases hlt : i < f.length
    · have hd : decide ((i : Int) < (f.length : Int)) = true := by simp [hlt]
      obtain ⟨x, hx⟩ : ∃ x, f[i]? = some x := ⟨f[i], by simp [hlt]⟩
      have hwx : wTold x ≤ 4194304 := w_le wTold hx hw
      clear hw
      (all_goals (have E0 := @encTold.eq_1))
      (all_goals (have E1 := @encMsg.eq_1))
      repeat' (first | refine sGlTold26 ?_ | (refine two ?_ ?_; all_goals (intro h; try simp only [Bool.not_eq_true', Bool.not_eq_false', reduceCtorEq] at h)) | fail)
      all_goals (try clear E0 E1)
      refine ⟨f.length - (i + 1), by omega, i + 1, rfl, by omega, ?_⟩
      simp only [clr, go_sem]
    · have hd : decide ((i : Int) < (f.length : Int)) = false := by simp; omega
      repeat' (first | refine sGlTold26 ?_ | (refine two ?_ ?_; all_goals (intro h; try simp only [Bool.not_eq_true', Bool.not_eq_false', reduceCtorEq] at h)) | fail)
      all_goals (simp only [go_sem, *])
noncomputable abbrev ic_laws_eqToldS := Con.mk (P := P) (f := 26) Try.call26 @c_laws_eqToldS
attribute [instance] ic_laws_eqToldS
-- LENT m_laws_markToldS 0
theorem m_laws_markToldS (f : List ToldV) (k : Int) (hw : wToldS f ≤ 4194304) (h0 : 0 ≤ k) (h1 : k + (mwToldS f : Nat) ≤ 1099511627776) :
    SoundM P 27 [.lst true 6 (f.map (encTold true)), .int .i64 k] 0 (.int .i64 (k + (mwToldS f : Nat))) (.lst true 6 ((mkToldS f k).map (encTold true))) := by
  have hl : f.length ≤ 4194304 := Nat.le_trans (Nat.le_add_right _ _) hw
  have h10 := mw10ToldS f
  refine snd_M hT Try.func27 Try.results27 Try.ntmps27 ?_
  repeat' (first | refine one ?_ | (refine two ?_ ?_; all_goals (intro h; try simp only [Bool.not_eq_true', Bool.not_eq_false', reduceCtorEq] at h)) | fail)
  refine aw_loop [2, 3, 6, 7, 8, 9, 10, 11, 12, 13, 14, 15, 16, 17, 18, 19, 20, 21, 22, 23, 24, 25, 26, 27, 28, 29, 30, 31, 32, 33, 34, 35, 36, 37, 38, 39, 40, 41, 42, 43, 44, 45, 46, 47, 48, 49, 50, 51, 52, 53, 54, 55, 56, 57, 58] (fun n S => ∃ i : Nat, n = f.length - i ∧ i ≤ f.length ∧ S = [.lst true 6 ((mkI meTold mwTold f i k).map (encTold true)), .int .i64 (k + (sumL mwTold (f.take i) : Nat)), .undef, .undef, .int .i64 0, .int .i64 i, .undef, .undef, .undef, .undef, .undef, .undef, .undef, .undef, .undef, .undef, .undef, .undef, .undef, .undef, .undef, .undef, .undef, .undef, .undef, .undef, .undef, .undef, .undef, .undef, .undef, .undef, .undef, .undef, .undef, .undef, .undef, .undef, .undef, .undef, .undef, .undef, .undef, .undef, .undef, .undef, .undef, .undef, .undef, .undef, .undef, .undef, .undef, .undef, .undef, .undef, .undef, .undef, .undef]) f.length ?_ ?_
  · refine ⟨0, by simp, by omega, ?_⟩
    simp only [clr, go_sem]
    first | done | simp [mkI_zero, sumL]
  · rintro n S ⟨i, hn, hi, rfl⟩
    have hwi : IntKind.i64.wrap ((i : Int) + 1) = ((i + 1 : Nat) : Int) := by rw [wrap_small] <;> omega
    by_cases hlt : i < f.length
    · have hd : (i : Int) < (f.length : Int) := by omega
      obtain ⟨x, hx⟩ : ∃ x, f[i]? = some x := ⟨f[i], by simp [hlt]⟩
      have hwx : wTold x ≤ 4194304 := w_le wTold hx hw
      have hs := sumL_succ mwTold hx
      have hle := sumL_le mwTold f (i + 1)
      simp only [mwToldS] at h10 h1
      have hlen : ((mkI meTold mwTold f i k).map (encTold true)).length = f.length := by rw [List.length_map, mkI_len]
      have hat : ((mkI meTold mwTold f i k).map (encTold true))[i]? = some (.agg [.int .i64 x.kind, .agg [.int .i64 x.msg.kind, .int .i64 x.msg.num, .str x.msg.text], .int .i64 x.index, .int .i64 x.n]) := by rw [List.getElem?_map, mkI_at _ _ hx]; rfl
      have hset : ((mkI meTold mwTold f i k).map (encTold true)).set i ((encTold true) (meTold x (k + (sumL mwTold (f.take i) : Nat)))) = (mkI meTold mwTold f (i + 1) k).map (encTold true) := by rw [← List.map_set, mkI_set _ _ hx]
      have hil : i < ((mkI meTold mwTold f i k).map (encTold true)).length := by omega
      have s1 : ∀ v, (((mkI meTold mwTold f i k).map (encTold true)).set i v)[i]? = some v := fun v => List.getElem?_set_self hil
      have hpM : plAs ((mkI meTold mwTold f i k).map (encTold true)) = true := plAs_Told true _
      generalize (mkI meTold mwTold f i k).map (encTold true) = M at *
      obtain ⟨k0, hk0⟩ : ∃ k0 : Int, k0 = k + (sumL mwTold (f.take i) : Nat) := ⟨_, rfl⟩
      rw [← hk0] at hset ⊢
      obtain ⟨k1, hk1⟩ : ∃ k1 : Int, k1 = k0 + 1 := ⟨_, rfl⟩
      obtain ⟨k2, hk2⟩ : ∃ k2 : Int, k2 = k1 + 1 := ⟨_, rfl⟩
      obtain ⟨k3, hk3⟩ : ∃ k3 : Int, k3 = k2 + 1 := ⟨_, rfl⟩
      obtain ⟨k4, hk4⟩ : ∃ k4 : Int, k4 = k3 + 1 := ⟨_, rfl⟩
      obtain ⟨k5, hk5⟩ : ∃ k5 : Int, k5 = k4 + 1 := ⟨_, rfl⟩
      obtain ⟨k6, hk6⟩ : ∃ k6 : Int, k6 = k5 + 1 := ⟨_, rfl⟩
      have hend : k + (sumL mwTold (f.take (i + 1)) : Nat) = k6 := by rw [hs]; simp only [mwTold]; omega
      have hk1b : k6 ≤ 1099511627776 := by omega
      have hwk1 : IntKind.i64.wrap (k0 + 1) = k1 := by rw [wrap_small] <;> omega
      have hwk2 : IntKind.i64.wrap (k1 + 1) = k2 := by rw [wrap_small] <;> omega
      have hwk3 : IntKind.i64.wrap (k2 + 1) = k3 := by rw [wrap_small] <;> omega
      have hwk4 : IntKind.i64.wrap (k3 + 1) = k4 := by rw [wrap_small] <;> omega
      have hbk4 : k3 < 4611686018427387904 := by omega
      have hwk5 : IntKind.i64.wrap (k4 + 1) = k5 := by rw [wrap_small] <;> omega
      have hwk6 : IntKind.i64.wrap (k5 + 1) = k6 := by rw [wrap_small] <;> omega
      have hset2 : M.set i (.agg [.int .i64 k0, .agg [.int .i64 k1, .int .i64 k2, .str (mText k3)], .int .i64 k4, .int .i64 k5]) = (mkI meTold mwTold f (i + 1) k).map (encTold true) := by
        rw [← hset]; congr 1 <;> (simp only [encTold, encMsg, meTold]; first | done | (subst_vars; rfl))
      clear hset h10 hw hs hle hk0 hk1 hk2 hk3 hk4 hk5 hk6
      (all_goals (have E0 := @encTold.eq_1))
      (all_goals (have E1 := @encMsg.eq_1))
      (all_goals (have E2 := @List.set_set AV))
      repeat' (first | refine one ?_ | (refine two ?_ ?_; all_goals (intro h; try simp only [Bool.not_eq_true', Bool.not_eq_false', reduceCtorEq] at h)) | fail)
      all_goals (try clear E0 E1 E2)
      refine ⟨f.length - (i + 1), by omega, i + 1, rfl, by omega, ?_⟩
      simp only [clr, go_sem, *]
    · have hd : decide ((i : Int) < (f.length : Int)) = false := by simp; omega
      have hall : mkI meTold mwTold f i k = mkToldS f k := mkI_all _ _ (by omega)
      have ht : f.take i = f := List.take_of_length_le (by omega)
      have hlen : (mkToldS f k).length = f.length := mkL_len _ _ _ _
      rw [hall, ht]
      clear hall ht
      exact wGlTold27_0
noncomputable abbrev im_laws_markToldS := ConL.mk (P := P) (f := 27) (t := 0) Try.call27 @m_laws_markToldS
attribute [instance] im_laws_markToldS
theorem c_laws_heldToldS (f : List ToldV) (k : Int) (hw : wToldS f ≤ 4194304) (h0 : 0 ≤ k) (h1 : k + (mwToldS f : Nat) ≤ 1099511627776) :
    Sound P 28 [.lst false 6 ((mkToldS f k).map (encTold false)), .int .i64 k] (.int .i64 (k + (mwToldS f : Nat))) := by
  have hl : f.length ≤ 4194304 := Nat.le_trans (Nat.le_add_right _ _) hw
  have h10 := mw10ToldS f
  have hlen : (mkToldS f k).length = f.length := mkL_len _ _ _ _
  refine snd_b hT Try.func28 Try.results28 Try.ntmps28 ?_
  repeat' (first | refine sGlTold28 ?_ | (refine two ?_ ?_; all_goals (intro h; try simp only [Bool.not_eq_true', Bool.not_eq_false', reduceCtorEq] at h)) | fail)
  refine aw_loop [2, 3, 6, 7, 8, 9, 10, 11, 12, 13, 14, 15, 16, 17, 18, 19, 20, 21, 22, 23, 24, 25, 26, 27, 28, 29, 30, 31, 32, 33, 34, 35, 36, 37, 38, 39, 40, 41, 42, 43, 44, 45, 46, 47, 48, 49, 50, 51, 52, 53, 54, 55, 56, 57, 58, 59, 60, 61, 62, 63, 64, 65, 66, 67, 68, 69, 70] (fun n S => ∃ i : Nat, n = f.length - i ∧ i ≤ f.length ∧ S = [.lst false 6 ((mkToldS f k).map (encTold false)), .int .i64 (k + (sumL mwTold (f.take i) : Nat)), .undef, .undef, .int .i64 0, .int .i64 i, .undef, .undef, .undef, .undef, .undef, .undef, .undef, .undef, .undef, .undef, .undef, .undef, .undef, .undef, .undef, .undef, .undef, .undef, .undef, .undef, .undef, .undef, .undef, .undef, .undef, .undef, .undef, .undef, .undef, .undef, .undef, .undef, .undef, .undef, .undef, .undef, .undef, .undef, .undef, .undef, .undef, .undef, .undef, .undef, .undef, .undef, .undef, .undef, .undef, .undef, .undef, .undef, .undef, .undef, .undef, .undef, .undef, .undef, .undef, .undef, .undef, .undef, .undef, .undef, .undef]) f.length ?_ ?_
  · refine ⟨0, by simp, by omega, ?_⟩
    simp only [clr, go_sem]
    first | done | simp [sumL]
  · rintro n S ⟨i, hn, hi, rfl⟩
    have hwi : IntKind.i64.wrap ((i : Int) + 1) = ((i + 1 : Nat) : Int) := by rw [wrap_small] <;> omega
    by_cases hlt : i < f.length
    · have hd : decide ((i : Int) < (f.length : Int)) = true := by simp [hlt]
      obtain ⟨x, hx⟩ : ∃ x, f[i]? = some x := ⟨f[i], by simp [hlt]⟩
      have hwx : wTold x ≤ 4194304 := w_le wTold hx hw
      have hs := sumL_succ mwTold hx
      have hle := sumL_le mwTold f (i + 1)
      simp only [mwToldS] at h10 h1
      have hat : (mkToldS f k)[i]? = some (meTold x (k + (sumL mwTold (f.take i) : Nat))) := mkL_at _ _ hx k
      obtain ⟨k0, hk0⟩ : ∃ k0 : Int, k0 = k + (sumL mwTold (f.take i) : Nat) := ⟨_, rfl⟩
      rw [← hk0] at hat ⊢
      obtain ⟨k1, hk1⟩ : ∃ k1 : Int, k1 = k0 + 1 := ⟨_, rfl⟩
      obtain ⟨k2, hk2⟩ : ∃ k2 : Int, k2 = k1 + 1 := ⟨_, rfl⟩
      obtain ⟨k3, hk3⟩ : ∃ k3 : Int, k3 = k2 + 1 := ⟨_, rfl⟩
      obtain ⟨k4, hk4⟩ : ∃ k4 : Int, k4 = k3 + 1 := ⟨_, rfl⟩
      obtain ⟨k5, hk5⟩ : ∃ k5 : Int, k5 = k4 + 1 := ⟨_, rfl⟩
      obtain ⟨k6, hk6⟩ : ∃ k6 : Int, k6 = k5 + 1 := ⟨_, rfl⟩
      have hend : k + (sumL mwTold (f.take (i + 1)) : Nat) = k6 := by rw [hs]; simp only [mwTold]; omega
      have hwk1 : IntKind.i64.wrap (k0 + 1) = k1 := by rw [wrap_small] <;> omega
      have hwk2 : IntKind.i64.wrap (k1 + 1) = k2 := by rw [wrap_small] <;> omega
      have hwk3 : IntKind.i64.wrap (k2 + 1) = k3 := by rw [wrap_small] <;> omega
      have hwk4 : IntKind.i64.wrap (k3 + 1) = k4 := by rw [wrap_small] <;> omega
      have hbk4 : k3 < 4611686018427387904 := by omega
      have hwk5 : IntKind.i64.wrap (k4 + 1) = k5 := by rw [wrap_small] <;> omega
      have hwk6 : IntKind.i64.wrap (k5 + 1) = k6 := by rw [wrap_small] <;> omega
      have hme : meTold x k0 = { kind := k0, msg := { kind := k1, num := k2, text := mText k3 }, index := k4, n := k5 } := by simp only [meTold]; first | done | (subst_vars; rfl)
      rw [hme] at hat
      clear h10 hw hme hs hle hk0 hk1 hk2 hk3 hk4 hk5 hk6
      (all_goals (have E0 := @encTold.eq_1))
      (all_goals (have E1 := @encMsg.eq_1))
      repeat' (first | refine sGlTold28 ?_ | (refine two ?_ ?_; all_goals (intro h; try simp only [Bool.not_eq_true', Bool.not_eq_false', reduceCtorEq] at h)) | fail)
      all_goals (try clear E0 E1)
      refine ⟨f.length - (i + 1), by omega, i + 1, rfl, by omega, ?_⟩
      simp only [clr, go_sem, *]
    · have hd : decide ((i : Int) < (f.length : Int)) = false := by simp; omega
      have ht : f.take i = f := List.take_of_length_le (by omega)
      rw [ht]
      clear ht
      exact wGlTold28_0
noncomputable abbrev ic_laws_heldToldS := Con.mk (P := P) (f := 28) Try.call28 @c_laws_heldToldS
attribute [instance] ic_laws_heldToldS
end Go.Proofs.Ytlgdijjkegeccaa
