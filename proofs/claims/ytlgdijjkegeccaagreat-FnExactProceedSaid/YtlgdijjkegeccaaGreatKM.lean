/- Contracts of the law's helpers: Msg. Contracts of the slices package at lists of impl.Msg. -/
import Derived.Test.YtlgdijjkegeccaaGreatKA
import Derived.Test.YtlgdijjkegeccaaGreatKG
namespace Go.Proofs.YtlgdijjkegeccaaGreat
open Go Go.RowKit Go.Bv
set_option linter.unusedSimpArgs false
set_option linter.unusedVariables false
set_option maxRecDepth 4000
set_option maxHeartbeats 1000000
/-! The walks that end. -/
theorem wGlMsg33_0 {p : Prop} (h : p := by
  repeat' (first | refine one ?_ | (refine two ?_ ?_; all_goals (intro h; try simp only [Bool.not_eq_true', Bool.not_eq_false', reduceCtorEq] at h)) | fail)
  all_goals ((simp only [go_sem, *]); first | done | rfl)) : p := h
theorem sGlMsg36 {p q : Prop} (k : q) (h : q → p := by
  first
  | exact shAR 10 (by exact i_S hT [[], [], [0, 1], [0, 1, 2], [0, 1, 2, 3], [], [5], [0, 1, 2, 3, 4, 5, 6]] [30, 31, 32, 33, 34, 35, 36, 37])
  | exact i1
  | fail) : p := h k
theorem wGlMsg36_0 {p : Prop} (h : p := by
  repeat' (first | refine sGlMsg36 ?_ | (refine two ?_ ?_; all_goals (intro h; try simp only [Bool.not_eq_true', Bool.not_eq_false', reduceCtorEq] at h)) | fail)
  all_goals (simp only [go_sem, *]; first | done | rfl)) : p := h
theorem sGlMsg29 {p q : Prop} (k : q) (h : q → p := by
  first
  | exact shAR 6 (by exact i_S hT [[], [], [0, 1], [0, 1, 2], [], [], [4, 5], [4, 5, 6], [0, 1, 2, 3, 4, 5, 6, 7], [0, 1, 2, 3, 4, 5, 6, 7, 8]] [17, 18, 19, 20, 21, 22, 23, 24, 25, 26])
  | exact i1
  | fail) : p := h k
structure MsgV where
  kind : Int
  num : Int
  text : ByteArray
def encMsg (o : Bool) (x : MsgV) : AV := .agg [.int .i64 x.kind, .int .i64 x.num, .str x.text]
theorem ash_Msg (o : Bool) (x : MsgV) : ash (encMsg o x) = encMsg false x := by simp only [encMsg, ash, ashs]
theorem plA_Msg (o : Bool) (x : MsgV) : plA (encMsg o x) = true := by simp only [encMsg, plA, plAs, Bool.and_self]
theorem noSh_Msg (x : MsgV) : noSh (encMsg true x) = true := by simp only [encMsg, noSh, noShs, Bool.and_self]
attribute [go_sem] ash_Msg plA_Msg noSh_Msg
def wMsg (x : MsgV) : Nat := x.text.size
def okMsg (x : MsgV) : Prop := x.text.size < 4611686018427387904
def meMsg (x : MsgV) (k : Int) : MsgV := { kind := k, num := k + 1, text := mText (k + 1 + 1) }
def mwMsg (x : MsgV) : Nat := 3
theorem mw10Msg (x : MsgV) : mwMsg x ≤ 10 * (1 + wMsg x) := by
  skip
  simp only [mwMsg, wMsg]; omega
def wMsgS (f : List MsgV) : Nat := f.length + sumL wMsg f
def okMsgS (f : List MsgV) : Prop := f.length < 4611686018427387904 ∧ ∀ x ∈ f, okMsg x
def mkMsgS (f : List MsgV) (k : Int) : List MsgV := mkL meMsg mwMsg f k
def mwMsgS (f : List MsgV) : Nat := sumL mwMsg f
theorem mw10MsgS (f : List MsgV) : mwMsgS f ≤ 10 * wMsgS f := sum10 mw10Msg f
theorem ashs_Msg (o : Bool) (f : List MsgV) : ashs (f.map (encMsg o)) = f.map (encMsg false) := ashs_map (g := (encMsg o)) (h := (encMsg false)) (fun x => ash_Msg o x) f
theorem plAs_Msg (o : Bool) (f : List MsgV) : plAs (f.map (encMsg o)) = true := plAs_map (g := (encMsg o)) (fun x => plA_Msg o x) f
theorem alen_Msg (o : Bool) (f : List MsgV) : ((f.map (encMsg o)).all fun u => alen u == 3) = true := alen_map (g := (encMsg o)) (fun x => rfl) f
theorem noShs_Msg (f : List MsgV) : noShs (f.map (encMsg true)) = true := noShs_map (g := (encMsg true)) (fun x => noSh_Msg x) f
theorem leafAs_Msg (o : Bool) (f : List MsgV) : leafAs (f.map (encMsg o)) = true := leafAs_map (g := (encMsg o)) (fun x => rfl) f
attribute [go_sem] ashs_Msg plAs_Msg alen_Msg noShs_Msg leafAs_Msg
def zeroMsg : AV := .agg [.int .i64 0, .int .i64 0, .str { data := #[] }]
theorem c_laws_szMsg (x : MsgV) (left : Int) {u : AV} (hu : u = encMsg false x) (hb : okMsg x) (h0 : decide (left < 0) = false) (h1 : left ≤ 1048576) : Sound P 39 [u, .int .i64 left] (.int .i64 (szW (wMsg x) left)) := by
  subst hu
  have hp : 0 ≤ left := by simpa using h0
  have hb0 := hb
  simp only [okMsg] at hb0
  have hw0 : IntKind.i64.wrap (left - (x.text.size : Int)) = left - (x.text.size : Int) := by rw [wrap_small] <;> omega
  refine snd_b hT Tryz.func39 Tryz.results39 Tryz.ntmps39 ?_
  (all_goals (have E0 := @encMsg.eq_1))
  repeat' (first | refine one ?_ | (refine two ?_ ?_; all_goals (intro h; try simp only [Bool.not_eq_true', Bool.not_eq_false', reduceCtorEq] at h)) | fail)
  all_goals (try clear E0)
  all_goals (
    (simp only [go_sem, *])
    first
    | done
    | (have hT : wMsg x = x.text.size := rfl
       simp only [decide_eq_true_eq, decide_eq_false_iff_not, Option.some.injEq, AV.int.injEq, true_and] at *
       rcases szW_cases (wMsg x) left with ⟨_, _⟩ | ⟨_, _⟩ <;> omega))
noncomputable abbrev ic_laws_szMsg := Con.mk (P := P) (f := 39) Tryz.call39 @c_laws_szMsg
attribute [instance] ic_laws_szMsg
theorem c_laws_toMsg (x : MsgV) {u : AV} (hu : u = encMsg false x) (hw : wMsg x ≤ 4194304) : Sound P 48 [u] (encMsg true x) := by
  subst hu
  clear hw
  refine snd_b hT Tryz.func48 Tryz.results48 Tryz.ntmps48 ?_
  (all_goals (have E0 := @encMsg.eq_1))
  repeat' (first | refine one ?_ | (refine two ?_ ?_; all_goals (intro h; try simp only [Bool.not_eq_true', Bool.not_eq_false', reduceCtorEq] at h)) | fail)
  all_goals (try clear E0)
  all_goals ((simp only [go_sem, *]); first | done | rfl)
noncomputable abbrev ic_laws_toMsg := Con.mk (P := P) (f := 48) Tryz.call48 @c_laws_toMsg
attribute [instance] ic_laws_toMsg
theorem c_laws_eqMsg (x : MsgV) {u v : AV} (hu : u = encMsg false x) (hv : v = encMsg false x) (hw : wMsg x ≤ 4194304) : Sound P 32 [u, v] (.bool true) := by
  subst hu hv
  clear hw
  refine snd_b hT Tryz.func32 Tryz.results32 Tryz.ntmps32 ?_
  (all_goals (have E0 := @encMsg.eq_1))
  repeat' (first | refine one ?_ | (refine two ?_ ?_; all_goals (intro h; try simp only [Bool.not_eq_true', Bool.not_eq_false', reduceCtorEq] at h)) | fail)
  all_goals (try clear E0)
  all_goals (simp only [go_sem, *])
noncomputable abbrev ic_laws_eqMsg := Con.mk (P := P) (f := 32) Tryz.call32 @c_laws_eqMsg
attribute [instance] ic_laws_eqMsg
theorem c_laws_szMsgS (f : List MsgV) (left : Int) (hb : okMsgS f) (h0 : decide (left < 0) = false) (h1 : left ≤ 1048576) : Sound P 12 [.lst false 3 (f.map (encMsg false)), .int .i64 left] (.int .i64 (szW (wMsgS f) left)) := by
  have hl := hb.1
  have hp : 0 ≤ left := by simpa using h0
  have hw : IntKind.i64.wrap (left - f.length) = left - f.length := by rw [wrap_small] <;> omega
  refine snd_b hT Tryz.func12 Tryz.results12 Tryz.ntmps12 ?_
  repeat' (first | refine one ?_ | (refine two ?_ ?_; all_goals (intro h; try simp only [Bool.not_eq_true', Bool.not_eq_false', reduceCtorEq] at h)) | fail)
  · (simp only [go_sem, *])
    have hall : szW (wMsgS f) left = -1 := by rw [szW, if_neg]; simp only [wMsgS]; simp only [decide_eq_true_eq] at h; omega
    first | done | rw [hall]
  have hlen : decide (left - f.length < 0) = false := h
  have hlen2 : (f.length : Int) ≤ left := by simp only [decide_eq_false_iff_not] at h; omega
  clear h
  refine aw_loop [2, 3, 6, 7, 8, 9, 10, 11, 12, 13, 14, 15, 16, 17, 18, 19, 20, 21, 22, 23, 24, 25, 26] (fun n S => ∃ i : Nat, n = f.length - i ∧ i ≤ f.length ∧ 0 ≤ left - f.length - (sumL wMsg (f.take i) : Nat) ∧ S = [.lst false 3 (f.map (encMsg false)), .int .i64 (left - f.length - (sumL wMsg (f.take i) : Nat)), .undef, .undef, .int .i64 0, .int .i64 i, .undef, .undef, .undef, .undef, .undef, .undef, .undef, .undef, .undef, .undef, .undef, .undef, .undef, .undef, .undef, .undef, .undef, .undef, .undef, .undef, .undef]) f.length ?_ ?_
  · refine ⟨0, by simp, by omega, by simp [sumL]; omega, ?_⟩
    simp only [clr, go_sem]
    first | done | simp [sumL]
  · rintro n S ⟨i, hn, hi, hpos, rfl⟩
    have hwi : IntKind.i64.wrap ((i : Int) + 1) = ((i + 1 : Nat) : Int) := by rw [wrap_small] <;> omega
    by_cases hlt : i < f.length
    · have hd : decide ((i : Int) < (f.length : Int)) = true := by simp [hlt]
      obtain ⟨x, hx⟩ : ∃ x, f[i]? = some x := ⟨f[i], by simp [hlt]⟩
      have hok := hb.2 x (List.mem_of_getElem? hx)
      have hs := sumL_succ wMsg hx
      have hle := sumL_le wMsg f (i + 1)
      have hg0 : decide (left - f.length - (sumL wMsg (f.take i) : Nat) < 0) = false := by simp; omega
      have hg1 : left - f.length - (sumL wMsg (f.take i) : Nat) ≤ 1048576 := by omega
      clear hb
      by_cases hf : (wMsg x : Int) ≤ left - f.length - (sumL wMsg (f.take i) : Nat)
      · have he : szW (wMsg x) (left - f.length - (sumL wMsg (f.take i) : Nat)) = left - f.length - (sumL wMsg (f.take (i + 1)) : Nat) := by rw [szW, if_pos hf]; omega
        have hgp : 0 ≤ left - f.length - (sumL wMsg (f.take (i + 1)) : Nat) := by omega
        have hgn : decide (left - f.length - (sumL wMsg (f.take (i + 1)) : Nat) < 0) = false := by simp; omega
        clear hs hle
        (all_goals (have E0 := @encMsg.eq_1))
        repeat' (first | refine one ?_ | (refine two ?_ ?_; all_goals (intro h; try simp only [Bool.not_eq_true', Bool.not_eq_false', reduceCtorEq] at h)) | fail)
        all_goals (try clear E0)
        refine ⟨f.length - (i + 1), by omega, i + 1, rfl, by omega, hgp, ?_⟩
        simp only [clr, go_sem]
      · have he : szW (wMsg x) (left - f.length - (sumL wMsg (f.take i) : Nat)) = -1 := by rw [szW, if_neg hf]
        have hgn : decide ((-1 : Int) < 0) = true := by decide
        have hall : szW (wMsgS f) left = -1 := by rw [szW, if_neg]; simp only [wMsgS]; omega
        (all_goals (have E0 := @encMsg.eq_1))
        repeat' (first | refine one ?_ | (refine two ?_ ?_; all_goals (intro h; try simp only [Bool.not_eq_true', Bool.not_eq_false', reduceCtorEq] at h)) | fail)
        all_goals (try clear E0)
        all_goals (simp only [go_sem, *])
    · have hd : decide ((i : Int) < (f.length : Int)) = false := by simp; omega
      have ht : f.take i = f := List.take_of_length_le (by omega)
      rw [ht] at hpos ⊢
      have hall : szW (wMsgS f) left = left - f.length - (sumL wMsg f : Nat) := by rw [szW, if_pos] <;> simp only [wMsgS] <;> omega
      repeat' (first | refine one ?_ | (refine two ?_ ?_; all_goals (intro h; try simp only [Bool.not_eq_true', Bool.not_eq_false', reduceCtorEq] at h)) | fail)
      all_goals (simp only [go_sem, *])
noncomputable abbrev ic_laws_szMsgS := Con.mk (P := P) (f := 12) Tryz.call12 @c_laws_szMsgS
attribute [instance] ic_laws_szMsgS
theorem c_laws_toMsgS (f : List MsgV) (hw : wMsgS f ≤ 4194304) : Sound P 21 [.lst false 3 (f.map (encMsg false))] (.lst true 3 (f.map (encMsg true))) := by
  have hl : f.length ≤ 4194304 := Nat.le_trans (Nat.le_add_right _ _) hw
  refine snd_b hT Tryz.func21 Tryz.results21 Tryz.ntmps21 ?_
  repeat' (first | refine one ?_ | (refine two ?_ ?_; all_goals (intro h; try simp only [Bool.not_eq_true', Bool.not_eq_false', reduceCtorEq] at h)) | fail)
  refine aw_loop [1, 5, 6, 8, 9, 10, 11, 12, 13, 14, 15, 16, 17, 18, 19, 20, 21, 22] (fun n S => ∃ i : Nat, n = f.length - i ∧ i ≤ f.length ∧ S = [.lst false 3 (f.map (encMsg false)), .undef, .lst true 3 [], .ref 7 [] 0 f.length, .int .i64 i, .undef, .undef, .lst true 3 (fillL (encMsg true) zeroMsg f i), .undef, .undef, .undef, .undef, .undef, .undef, .undef, .undef, .undef, .undef, .undef, .undef, .undef, .undef, .undef]) f.length ?_ ?_
  · refine ⟨0, by simp, by omega, ?_⟩
    simp only [clr, go_sem]
    first | done | simp [fillL, zeroMsg]
  · rintro n S ⟨i, hn, hi, rfl⟩
    have hwi : IntKind.i64.wrap ((i : Int) + 1) = ((i + 1 : Nat) : Int) := by rw [wrap_small] <;> omega
    by_cases hlt : i < f.length
    · have hd : (i : Int) < (f.length : Int) := by omega
      obtain ⟨x, hx⟩ : ∃ x, f[i]? = some x := ⟨f[i], by simp [hlt]⟩
      have hwx : wMsg x ≤ 4194304 := w_le wMsg hx hw
      have hfi : (fillL (encMsg true) zeroMsg f i)[i]? = some (.agg [.int .i64 0, .int .i64 0, .str { data := #[] }]) := fillL_at (encMsg true) zeroMsg hlt
      have hfs : (fillL (encMsg true) zeroMsg f i).set i (.agg [.int .i64 x.kind, .int .i64 x.num, .str x.text]) = fillL (encMsg true) zeroMsg f (i + 1) := fillL_set (encMsg true) zeroMsg hx
      generalize fillL (encMsg true) zeroMsg f i = M at *
      clear hw
      (all_goals (have E0 := @encMsg.eq_1))
      repeat' (first | refine one ?_ | (refine two ?_ ?_; all_goals (intro h; try simp only [Bool.not_eq_true', Bool.not_eq_false', reduceCtorEq] at h)) | fail)
      all_goals (try clear E0)
      refine ⟨f.length - (i + 1), by omega, i + 1, rfl, by omega, ?_⟩
      simp only [clr, go_sem]
    · have hd : decide ((i : Int) < (f.length : Int)) = false := by simp; omega
      have hall : fillL (encMsg true) zeroMsg f i = f.map (encMsg true) := fillL_all (encMsg true) zeroMsg (by omega)
      rw [hall]
      clear hall
      repeat' (first | refine one ?_ | (refine two ?_ ?_; all_goals (intro h; try simp only [Bool.not_eq_true', Bool.not_eq_false', reduceCtorEq] at h)) | fail)
      all_goals (simp only [go_sem, *])
noncomputable abbrev ic_laws_toMsgS := Con.mk (P := P) (f := 21) Tryz.call21 @c_laws_toMsgS
attribute [instance] ic_laws_toMsgS
theorem c_laws_eqMsgS (f : List MsgV) (hw : wMsgS f ≤ 4194304) : Sound P 29 [.lst false 3 (f.map (encMsg false)), .lst false 3 (f.map (encMsg false))] (.bool true) := by
  have hl : f.length ≤ 4194304 := Nat.le_trans (Nat.le_add_right _ _) hw
  refine snd_b hT Tryz.func29 Tryz.results29 Tryz.ntmps29 ?_
  repeat' (first | refine sGlMsg29 ?_ | (refine two ?_ ?_; all_goals (intro h; try simp only [Bool.not_eq_true', Bool.not_eq_false', reduceCtorEq] at h)) | fail)
  refine aw_loop [2, 3, 6, 7, 8, 9, 10, 11, 12, 13, 14, 15, 16, 17, 18, 19, 20, 21, 22, 23, 24, 25, 26] (fun n S => ∃ i : Nat, n = f.length - i ∧ i ≤ f.length ∧ S = [.lst false 3 (f.map (encMsg false)), .lst false 3 (f.map (encMsg false)), .undef, .undef, .bool false, .int .i64 i, .undef, .undef, .undef, .undef, .undef, .undef, .undef, .undef, .undef, .undef, .undef, .undef, .undef, .undef, .undef, .undef, .undef, .undef, .undef, .undef, .undef]) f.length ?_ ?_
  · refine ⟨0, by simp, by omega, ?_⟩
    simp only [clr, go_sem]
    first | done | rfl
  · rintro n S ⟨i, hn, hi, rfl⟩
    have hwi : IntKind.i64.wrap ((i : Int) + 1) = ((i + 1 : Nat) : Int) := by rw [wrap_small] <;> omega
    by_cases hlt : i < f.length
    · have hd : decide ((i : Int) < (f.length : Int)) = true := by simp [hlt]
      obtain ⟨x, hx⟩ : ∃ x, f[i]? = some x := ⟨f[i], by simp [hlt]⟩
      have hwx : wMsg x ≤ 4194304 := w_le wMsg hx hw
      clear hw
      (all_goals (have E0 := @encMsg.eq_1))
      repeat' (first | refine sGlMsg29 ?_ | (refine two ?_ ?_; all_goals (intro h; try simp only [Bool.not_eq_true', Bool.not_eq_false', reduceCtorEq] at h)) | fail)
      all_goals (try clear E0)
      refine ⟨f.length - (i + 1), by omega, i + 1, rfl, by omega, ?_⟩
      simp only [clr, go_sem]
    · have hd : decide ((i : Int) < (f.length : Int)) = false := by simp; omega
      repeat' (first | refine sGlMsg29 ?_ | (refine two ?_ ?_; all_goals (intro h; try simp only [Bool.not_eq_true', Bool.not_eq_false', reduceCtorEq] at h)) | fail)
      all_goals (simp only [go_sem, *])
noncomputable abbrev ic_laws_eqMsgS := Con.mk (P := P) (f := 29) Tryz.call29 @c_laws_eqMsgS
attribute [instance] ic_laws_eqMsgS
-- LENT m_laws_markMsgS 0
theorem m_laws_markMsgS (f : List MsgV) (k : Int) (hw : wMsgS f ≤ 4194304) (h0 : 0 ≤ k) (h1 : k + (mwMsgS f : Nat) ≤ 1099511627776) :
    SoundM P 33 [.lst true 3 (f.map (encMsg true)), .int .i64 k] 0 (.int .i64 (k + (mwMsgS f : Nat))) (.lst true 3 ((mkMsgS f k).map (encMsg true))) := by
  have hl : f.length ≤ 4194304 := Nat.le_trans (Nat.le_add_right _ _) hw
  have h10 := mw10MsgS f
  refine snd_M hT Tryz.func33 Tryz.results33 Tryz.ntmps33 ?_
  repeat' (first | refine one ?_ | (refine two ?_ ?_; all_goals (intro h; try simp only [Bool.not_eq_true', Bool.not_eq_false', reduceCtorEq] at h)) | fail)
  refine aw_loop [2, 3, 6, 7, 8, 9, 10, 11, 12, 13, 14, 15, 16, 17, 18, 19, 20, 21, 22, 23, 24, 25, 26, 27, 28, 29, 30, 31, 32, 33, 34] (fun n S => ∃ i : Nat, n = f.length - i ∧ i ≤ f.length ∧ S = [.lst true 3 ((mkI meMsg mwMsg f i k).map (encMsg true)), .int .i64 (k + (sumL mwMsg (f.take i) : Nat)), .undef, .undef, .int .i64 0, .int .i64 i, .undef, .undef, .undef, .undef, .undef, .undef, .undef, .undef, .undef, .undef, .undef, .undef, .undef, .undef, .undef, .undef, .undef, .undef, .undef, .undef, .undef, .undef, .undef, .undef, .undef, .undef, .undef, .undef, .undef]) f.length ?_ ?_
  · refine ⟨0, by simp, by omega, ?_⟩
    simp only [clr, go_sem]
    first | done | simp [mkI_zero, sumL]
  · rintro n S ⟨i, hn, hi, rfl⟩
    have hwi : IntKind.i64.wrap ((i : Int) + 1) = ((i + 1 : Nat) : Int) := by rw [wrap_small] <;> omega
    by_cases hlt : i < f.length
    · have hd : (i : Int) < (f.length : Int) := by omega
      obtain ⟨x, hx⟩ : ∃ x, f[i]? = some x := ⟨f[i], by simp [hlt]⟩
      have hwx : wMsg x ≤ 4194304 := w_le wMsg hx hw
      have hs := sumL_succ mwMsg hx
      have hle := sumL_le mwMsg f (i + 1)
      simp only [mwMsgS] at h10 h1
      have hlen : ((mkI meMsg mwMsg f i k).map (encMsg true)).length = f.length := by rw [List.length_map, mkI_len]
      have hat : ((mkI meMsg mwMsg f i k).map (encMsg true))[i]? = some (.agg [.int .i64 x.kind, .int .i64 x.num, .str x.text]) := by rw [List.getElem?_map, mkI_at _ _ hx]; rfl
      have hset : ((mkI meMsg mwMsg f i k).map (encMsg true)).set i ((encMsg true) (meMsg x (k + (sumL mwMsg (f.take i) : Nat)))) = (mkI meMsg mwMsg f (i + 1) k).map (encMsg true) := by rw [← List.map_set, mkI_set _ _ hx]
      have hil : i < ((mkI meMsg mwMsg f i k).map (encMsg true)).length := by omega
      have s1 : ∀ v, (((mkI meMsg mwMsg f i k).map (encMsg true)).set i v)[i]? = some v := fun v => List.getElem?_set_self hil
      have hpM : plAs ((mkI meMsg mwMsg f i k).map (encMsg true)) = true := plAs_Msg true _
      generalize (mkI meMsg mwMsg f i k).map (encMsg true) = M at *
      obtain ⟨k0, hk0⟩ : ∃ k0 : Int, k0 = k + (sumL mwMsg (f.take i) : Nat) := ⟨_, rfl⟩
      rw [← hk0] at hset ⊢
      obtain ⟨k1, hk1⟩ : ∃ k1 : Int, k1 = k0 + 1 := ⟨_, rfl⟩
      obtain ⟨k2, hk2⟩ : ∃ k2 : Int, k2 = k1 + 1 := ⟨_, rfl⟩
      obtain ⟨k3, hk3⟩ : ∃ k3 : Int, k3 = k2 + 1 := ⟨_, rfl⟩
      have hend : k + (sumL mwMsg (f.take (i + 1)) : Nat) = k3 := by rw [hs]; simp only [mwMsg]; omega
      have hk1b : k3 ≤ 1099511627776 := by omega
      have hwk1 : IntKind.i64.wrap (k0 + 1) = k1 := by rw [wrap_small] <;> omega
      have hwk2 : IntKind.i64.wrap (k1 + 1) = k2 := by rw [wrap_small] <;> omega
      have hwk3 : IntKind.i64.wrap (k2 + 1) = k3 := by rw [wrap_small] <;> omega
      have hbk3 : k2 < 4611686018427387904 := by omega
      have hset2 : M.set i (.agg [.int .i64 k0, .int .i64 k1, .str (mText k2)]) = (mkI meMsg mwMsg f (i + 1) k).map (encMsg true) := by
        rw [← hset]; congr 1 <;> (simp only [encMsg, meMsg]; first | done | (subst_vars; rfl))
      clear hset h10 hw hs hle hk0 hk1 hk2 hk3
      (all_goals (have E0 := @encMsg.eq_1))
      (all_goals (have E1 := @List.set_set AV))
      repeat' (first | refine one ?_ | (refine two ?_ ?_; all_goals (intro h; try simp only [Bool.not_eq_true', Bool.not_eq_false', reduceCtorEq] at h)) | fail)
      all_goals (try clear E0 E1)
      refine ⟨f.length - (i + 1), by omega, i + 1, rfl, by omega, ?_⟩
      simp only [clr, go_sem, *]
    · have hd : decide ((i : Int) < (f.length : Int)) = false := by simp; omega
      have hall : mkI meMsg mwMsg f i k = mkMsgS f k := mkI_all _ _ (by omega)
      have ht : f.take i = f := List.take_of_length_le (by omega)
      have hlen : (mkMsgS f k).length = f.length := mkL_len _ _ _ _
      rw [hall, ht]
      clear hall ht
      exact wGlMsg33_0
noncomputable abbrev im_laws_markMsgS := ConL.mk (P := P) (f := 33) (t := 0) Tryz.call33 @m_laws_markMsgS
attribute [instance] im_laws_markMsgS
theorem c_laws_heldMsgS (f : List MsgV) (k : Int) (hw : wMsgS f ≤ 4194304) (h0 : 0 ≤ k) (h1 : k + (mwMsgS f : Nat) ≤ 1099511627776) :
    Sound P 36 [.lst false 3 ((mkMsgS f k).map (encMsg false)), .int .i64 k] (.int .i64 (k + (mwMsgS f : Nat))) := by
  have hl : f.length ≤ 4194304 := Nat.le_trans (Nat.le_add_right _ _) hw
  have h10 := mw10MsgS f
  have hlen : (mkMsgS f k).length = f.length := mkL_len _ _ _ _
  refine snd_b hT Tryz.func36 Tryz.results36 Tryz.ntmps36 ?_
  repeat' (first | refine sGlMsg36 ?_ | (refine two ?_ ?_; all_goals (intro h; try simp only [Bool.not_eq_true', Bool.not_eq_false', reduceCtorEq] at h)) | fail)
  refine aw_loop [2, 3, 6, 7, 8, 9, 10, 11, 12, 13, 14, 15, 16, 17, 18, 19, 20, 21, 22, 23, 24, 25, 26, 27, 28, 29, 30, 31, 32, 33, 34, 35, 36, 37, 38, 39, 40] (fun n S => ∃ i : Nat, n = f.length - i ∧ i ≤ f.length ∧ S = [.lst false 3 ((mkMsgS f k).map (encMsg false)), .int .i64 (k + (sumL mwMsg (f.take i) : Nat)), .undef, .undef, .int .i64 0, .int .i64 i, .undef, .undef, .undef, .undef, .undef, .undef, .undef, .undef, .undef, .undef, .undef, .undef, .undef, .undef, .undef, .undef, .undef, .undef, .undef, .undef, .undef, .undef, .undef, .undef, .undef, .undef, .undef, .undef, .undef, .undef, .undef, .undef, .undef, .undef, .undef]) f.length ?_ ?_
  · refine ⟨0, by simp, by omega, ?_⟩
    simp only [clr, go_sem]
    first | done | simp [sumL]
  · rintro n S ⟨i, hn, hi, rfl⟩
    have hwi : IntKind.i64.wrap ((i : Int) + 1) = ((i + 1 : Nat) : Int) := by rw [wrap_small] <;> omega
    by_cases hlt : i < f.length
    · have hd : decide ((i : Int) < (f.length : Int)) = true := by simp [hlt]
      obtain ⟨x, hx⟩ : ∃ x, f[i]? = some x := ⟨f[i], by simp [hlt]⟩
      have hwx : wMsg x ≤ 4194304 := w_le wMsg hx hw
      have hs := sumL_succ mwMsg hx
      have hle := sumL_le mwMsg f (i + 1)
      simp only [mwMsgS] at h10 h1
      have hat : (mkMsgS f k)[i]? = some (meMsg x (k + (sumL mwMsg (f.take i) : Nat))) := mkL_at _ _ hx k
      obtain ⟨k0, hk0⟩ : ∃ k0 : Int, k0 = k + (sumL mwMsg (f.take i) : Nat) := ⟨_, rfl⟩
      rw [← hk0] at hat ⊢
      obtain ⟨k1, hk1⟩ : ∃ k1 : Int, k1 = k0 + 1 := ⟨_, rfl⟩
      obtain ⟨k2, hk2⟩ : ∃ k2 : Int, k2 = k1 + 1 := ⟨_, rfl⟩
      obtain ⟨k3, hk3⟩ : ∃ k3 : Int, k3 = k2 + 1 := ⟨_, rfl⟩
      have hend : k + (sumL mwMsg (f.take (i + 1)) : Nat) = k3 := by rw [hs]; simp only [mwMsg]; omega
      have hwk1 : IntKind.i64.wrap (k0 + 1) = k1 := by rw [wrap_small] <;> omega
      have hwk2 : IntKind.i64.wrap (k1 + 1) = k2 := by rw [wrap_small] <;> omega
      have hwk3 : IntKind.i64.wrap (k2 + 1) = k3 := by rw [wrap_small] <;> omega
      have hbk3 : k2 < 4611686018427387904 := by omega
      have hme : meMsg x k0 = { kind := k0, num := k1, text := mText k2 } := by simp only [meMsg]; first | done | (subst_vars; rfl)
      rw [hme] at hat
      clear h10 hw hme hs hle hk0 hk1 hk2 hk3
      (all_goals (have E0 := @encMsg.eq_1))
      repeat' (first | refine sGlMsg36 ?_ | (refine two ?_ ?_; all_goals (intro h; try simp only [Bool.not_eq_true', Bool.not_eq_false', reduceCtorEq] at h)) | fail)
      all_goals (try clear E0)
      refine ⟨f.length - (i + 1), by omega, i + 1, rfl, by omega, ?_⟩
      simp only [clr, go_sem, *]
    · have hd : decide ((i : Int) < (f.length : Int)) = false := by simp; omega
      have ht : f.take i = f := List.take_of_length_le (by omega)
      rw [ht]
      clear ht
      exact wGlMsg36_0
noncomputable abbrev ic_laws_heldMsgS := Con.mk (P := P) (f := 36) Tryz.call36 @c_laws_heldMsgS
attribute [instance] ic_laws_heldMsgS
end Go.Proofs.YtlgdijjkegeccaaGreat
namespace Go.Proofs.YtlgdijjkegeccaaGreat
open Go Go.RowKit Go.Bv
set_option linter.unusedSimpArgs false
set_option linter.unusedVariables false
set_option maxRecDepth 4000
set_option maxHeartbeats 1000000
theorem c_slices_IndexFunc_impl_Msg_impl_Msg {g : Nat} {us : List AV} (f : List MsgV) (p : MsgV → Bool) (hp : ∀ x ∈ f, Sound P g ((encMsg false) x :: us) (.bool (p x))) (hg : ∀ vs w, (callFunc g vs).run P w = .ok (.enter g vs) w) (hus : ipsA us = true) (hl : f.length < 4611686018427387904) :
    Sound P 76 [.lst false 3 (f.map (encMsg false)), .fn g us] (.int .i64 (idxP p f)) := by
  have hsn := asnaps_ips hus
  have hna := noAgg_ips hus
  have hpu := ips_pl hus
  have hmu := fun d => plAs_men d us hpu
  have hhu := fun r q => plAs_hit r q us hpu
  have hdu := fun r => plAs_deep r us hpu
  have hvu : ∀ t q i, aviews t q i us = us := ips_view hus
  refine snd_b hT Tryz.func76 Tryz.results76 Tryz.ntmps76 ?_
  repeat' (first
  | with_reducible first | refine aw_seq ?_ | refine aw_block ?_ | refine aw_skip ?_ | refine aw_exit ?_
  | with_reducible first | refine aw_ret ?_ | refine thenA_n ?_ | refine thenA_r ?_ | refine thenA_x ?_ | refine blockA_n ?_ | refine blockA_r ?_ | refine blockA_e ?_ | refine blockA_x (by decide) ?_ | refine ends_r ?_ | refine ends_n ?_ | refine ends_rM ?_ | refine ends_nM ?_ | refine aw_reg ?_
  | with_reducible refine al_nil ?_
  | (with_reducible apply al_s hT true
     · first | exact gchk_none rfl | simp only [go_sem, *]
     · simp only [go_sem, hmu, hhu, *]; first | done | with_reducible rfl)
  )
  refine aw_loop [2, 3, 5, 9, 10, 11, 12, 13, 14, 15, 16, 17, 18] (fun n S => ∃ i : Nat, n = f.length - i ∧ i ≤ f.length ∧ AheadP p f i ∧ S = [.lst false 3 (f.map (encMsg false)), .fn g us, .undef, .undef, .int .i64 0, .undef, .lst false 3 (f.map (encMsg false)), .int .i64 f.length, .int .i64 i, .undef, .undef, .undef, .undef, .undef, .undef, .undef, .undef, .undef, .undef]) f.length ?_ ?_
  · refine ⟨0, by simp, by omega, .zero, ?_⟩
    simp only [clr, go_sem, hmu, hhu]
    first | done | rfl
  · rintro n S ⟨i, hn, hi, ha, rfl⟩
    have hwi : IntKind.i64.wrap ((i : Int) + 1) = ((i + 1 : Nat) : Int) := by rw [wrap_small] <;> omega
    by_cases hlt : i < f.length
    · have hd : decide ((i : Int) < (f.length : Int)) = true := by simp [hlt]
      obtain ⟨y, hy⟩ : ∃ y, f[i]? = some y := ⟨f[i], by simp [hlt]⟩
      have hpy := hp y (List.mem_of_getElem? hy)
      simp only [encMsg] at hpy
      clear hp
      repeat' (first
      | with_reducible first | refine aw_seq ?_ | refine aw_block ?_ | refine aw_skip ?_ | refine aw_exit ?_
      | with_reducible first | refine aw_ret ?_ | refine thenA_n ?_ | refine thenA_r ?_ | refine thenA_x ?_ | refine blockA_n ?_ | refine blockA_r ?_ | refine blockA_e ?_ | refine blockA_x (by decide) ?_ | refine ends_r ?_ | refine ends_n ?_ | refine ends_rM ?_ | refine ends_nM ?_ | refine aw_reg ?_
      | with_reducible refine al_nil ?_
      | (with_reducible apply aw_cond
         · simp only [go_sem, *]; with_reducible rfl
         all_goals (intro h; try simp only [Bool.not_eq_true', Bool.not_eq_false', reduceCtorEq] at h))
      | (with_reducible apply al_callv
         · exact gchk_none rfl
         · rfl
         · simp only [go_sem, encMsg, hmu, hhu, *]; with_reducible rfl
         · assumption
         · assumption
         · simp only [go_sem, encMsg, hmu, hhu, *]; with_reducible rfl
         · simp only [go_sem, encMsg, hmu, hhu, *]; with_reducible rfl
         · assumption
         · simp only [go_sem]
         · simp only [go_sem, hmu, hhu]; with_reducible rfl)
      | (with_reducible apply al_s hT true
         · first | exact gchk_none rfl | simp only [go_sem, *]
         · simp only [go_sem, encMsg, hmu, hhu, *]; first | done | with_reducible rfl)
      )
      · (simp only [go_sem, *])
        rw [idxP_some hy h ha]
      · refine ⟨f.length - (i + 1), by omega, i + 1, rfl, by omega, ha.succ hy h, ?_⟩
        simp only [clr, go_sem, hmu, hhu]
    · have hd : decide ((i : Int) < (f.length : Int)) = false := by simp; omega
      clear hp
      repeat' (first
      | with_reducible first | refine aw_seq ?_ | refine aw_block ?_ | refine aw_skip ?_ | refine aw_exit ?_
      | with_reducible first | refine aw_ret ?_ | refine thenA_n ?_ | refine thenA_r ?_ | refine thenA_x ?_ | refine blockA_n ?_ | refine blockA_r ?_ | refine blockA_e ?_ | refine blockA_x (by decide) ?_ | refine ends_r ?_ | refine ends_n ?_ | refine ends_rM ?_ | refine ends_nM ?_ | refine aw_reg ?_
      | with_reducible refine al_nil ?_
      | (with_reducible apply aw_cond
         · simp only [go_sem, *]; with_reducible rfl
         all_goals (intro h; try simp only [Bool.not_eq_true', Bool.not_eq_false', reduceCtorEq] at h))
      | (with_reducible apply al_s hT true
         · first | exact gchk_none rfl | simp only [go_sem, *]
         · simp only [go_sem, hmu, hhu, *]; first | done | with_reducible rfl)
      )
      (simp only [go_sem, *])
      rw [idxP_none (i := i) (by omega) ha]
noncomputable abbrev ic_slices_IndexFunc_impl_Msg_impl_Msg := Con.mk (P := P) (f := 76) Tryz.call76 @c_slices_IndexFunc_impl_Msg_impl_Msg
attribute [instance] ic_slices_IndexFunc_impl_Msg_impl_Msg
theorem c_slices_ContainsFunc_impl_Msg_impl_Msg {g : Nat} {us : List AV} (f : List MsgV) (p : MsgV → Bool) (hp : ∀ x ∈ f, Sound P g ((encMsg false) x :: us) (.bool (p x))) (hg : ∀ vs w, (callFunc g vs).run P w = .ok (.enter g vs) w) (hus : ipsA us = true) (hl : f.length < 4611686018427387904) :
    Sound P 57 [.lst false 3 (f.map (encMsg false)), .fn g us] (.bool (f.any p)) := by
  have hsn := asnaps_ips hus
  have hpu := ips_pl hus
  have hmu := fun d => plAs_men d us hpu
  have hhu := fun r q => plAs_hit r q us hpu
  have hvu : ∀ t q i, aviews t q i us = us := ips_view hus
  have hc := c_slices_IndexFunc_impl_Msg_impl_Msg f p hp hg hus hl
  clear hp
  refine snd_b hT Tryz.func57 Tryz.results57 Tryz.ntmps57 ?_
  repeat' (first
  | with_reducible first | refine aw_seq ?_ | refine aw_block ?_ | refine aw_skip ?_ | refine aw_exit ?_
  | with_reducible first | refine aw_ret ?_ | refine thenA_n ?_ | refine thenA_r ?_ | refine thenA_x ?_ | refine blockA_n ?_ | refine blockA_r ?_ | refine blockA_e ?_ | refine blockA_x (by decide) ?_ | refine ends_r ?_ | refine ends_n ?_ | refine ends_rM ?_ | refine ends_nM ?_ | refine aw_reg ?_
  | (with_reducible refine aw_any hT ?_ ?_; · decide +kernel)
  | with_reducible refine al_nil ?_
  | (with_reducible apply aw_cond
     · simp only [go_sem, *]; with_reducible rfl
     all_goals (intro h; try simp only [Bool.not_eq_true', Bool.not_eq_false', reduceCtorEq] at h))
  | (with_reducible apply al_call (f := 76)
     · first | exact gchk_none rfl | simp only [go_sem, *]
     · rfl
     · exact Tryz.call76
     · simp only [go_sem, hmu, hhu, *]; with_reducible rfl
     · simp only [go_sem, *]
     · first | assumption | ((with_reducible apply c_slices_IndexFunc_impl_Msg_impl_Msg) <;> first | assumption | rfl)
     · simp only [go_sem, hmu, hhu]; with_reducible rfl)
  | (with_reducible apply al_snap (f := 76)
     · first | exact gchk_none rfl | simp only [go_sem, *]
     · rfl
     · exact Tryz.call76
     · simp only [go_sem, hmu, hhu, *]; with_reducible rfl
     · simp only [go_sem, hmu, hhu, *]; with_reducible rfl
     · first | assumption | ((with_reducible apply c_slices_IndexFunc_impl_Msg_impl_Msg) <;> first | assumption | rfl)
     · simp only [go_sem, *]
     · simp only [go_sem, hmu, hhu]; with_reducible rfl)
  | (with_reducible apply al_s hT true
     · first | exact gchk_none rfl | simp only [go_sem, *]
     · simp only [go_sem, hmu, hhu, *]; first | done | with_reducible rfl)
  | (with_reducible apply al_q hT
     · first | exact gchk_none rfl | simp only [go_sem, *]
     · simp only [go_sem, hmu, hhu, *]; first | done | with_reducible rfl
     · simp only [go_sem, hmu, hhu]; with_reducible rfl)
  | (with_reducible apply al_skip
     · simp only [go_sem, *]
     · simp only [go_sem, hmu, hhu]; with_reducible rfl)
  | ((with_reducible first | apply al_caseT rfl | apply al_caseF rfl)
     · simp only [go_sem, *]; with_reducible rfl
     · simp only [go_sem, hmu, hhu]; with_reducible rfl
     all_goals (intro h; try simp only [Bool.not_eq_true', Bool.not_eq_false'] at h)
     fail_if_success (with_reducible have hh : (true = true ∨ false = false) := by first | exact Or.inl h | exact Or.inr h))
  )
  (simp only [go_sem, *])
  rw [idxP_ge]
noncomputable abbrev ic_slices_ContainsFunc_impl_Msg_impl_Msg := Con.mk (P := P) (f := 57) Tryz.call57 @c_slices_ContainsFunc_impl_Msg_impl_Msg
attribute [instance] ic_slices_ContainsFunc_impl_Msg_impl_Msg
theorem c_slices_Clone_impl_Msg_impl_Msg (f : List MsgV) (hf : f.length ≤ 4194304) : Sound P 50 [.lst false 3 (f.map (encMsg false))] (.lst true 3 (f.map (encMsg false))) := by
  refine snd_b hT Tryz.func50 Tryz.results50 Tryz.ntmps50 ?_
  repeat' (first
  | (with_reducible apply al_isnil hT
     · exact gchk_none rfl
     · rfl
     · simp only [go_sem]; first | done | with_reducible rfl
     · simp only [go_sem, *]; with_reducible rfl
     · simp only [go_sem, *]; with_reducible rfl
     intro b hb
     with_reducible apply al_cast
     · simp only [go_sem]; with_reducible rfl)
  | refine oneF ?_ | (refine two ?_ ?_; all_goals (intro h; try simp only [Bool.not_eq_true', Bool.not_eq_false', reduceCtorEq] at h)) | fail)
  · have hf0 : f = [] := by
      have : f.length = 0 := by
        by_cases h0 : f.length = 0
        · exact h0
        · have := hb h0; rw [h] at this; cases this
      exact List.eq_nil_of_length_eq_zero this
    subst hf0
    (simp only [go_sem, *])
    first | done | rfl
  · (simp only [go_sem, *])
noncomputable abbrev ic_slices_Clone_impl_Msg_impl_Msg := Con.mk (P := P) (f := 50) Tryz.call50 @c_slices_Clone_impl_Msg_impl_Msg
attribute [instance] ic_slices_Clone_impl_Msg_impl_Msg
end Go.Proofs.YtlgdijjkegeccaaGreat
