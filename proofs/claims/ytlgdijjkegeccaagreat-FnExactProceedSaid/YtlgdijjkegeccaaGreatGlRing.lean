/- Contracts of the law's helpers: Ring. -/
import Derived.Test.YtlgdijjkegeccaaGreatKA
import Derived.Test.YtlgdijjkegeccaaGreatKG
import Derived.Test.YtlgdijjkegeccaaGreatKM
import Derived.Test.YtlgdijjkegeccaaGreatKS
namespace Go.Proofs.YtlgdijjkegeccaaGreat
open Go Go.RowKit Go.Bv
set_option linter.unusedSimpArgs false
set_option linter.unusedVariables false
set_option maxRecDepth 4000
set_option maxHeartbeats 1000000
/-! The walks that end. -/
theorem sGlRing10 {p q : Prop} (k : q) (h : q → p := by
  first
  | exact shAL (by exact i_l (f := 33) 0 _)
  | exact shAL (by exact i_l (f := 34) 0 _)
  | exact shAL (by exact i_l (f := 35) 0 _)
  | exact shAL (by exact i_bv (x := .tmp 0))
  | exact i1
  | fail) : p := h k
theorem wGlRing10_0 {p : Prop} (h : p := by
  have E0 := @encRing.eq_1
  refine snd_M hT Tryz.func10 Tryz.results10 Tryz.ntmps10 ?_
  repeat' (first | refine sGlRing10 ?_ | (refine two ?_ ?_; all_goals (intro h; try simp only [Bool.not_eq_true', Bool.not_eq_false', reduceCtorEq] at h)) | fail)
  all_goals ((simp only [go_sem, *]); first | done | rfl)) : p := h
theorem wGlRing11_0 {p : Prop} (h : p := by
  have E0 := @encRing.eq_1
  have E1 := @mtRing.eq_1
  refine snd_b hT Tryz.func11 Tryz.results11 Tryz.ntmps11 ?_
  exact wk) : p := h
structure RingV where
  cap : Int
  sent : Int
  items : List MsgV
  next : Int
  subs : List SubV
  line : List Int
  grants : List Int
  closed : Bool
def encRing (o : Bool) (x : RingV) : AV := .agg [.int .i64 x.cap, .int .i64 x.sent, .lst o 3 (x.items.map (encMsg o)), .int .i64 x.next, .lst o 7 (x.subs.map (encSub o)), .lst o 1 (x.line.map encInt), .lst o 1 (x.grants.map encInt), .bool x.closed]
theorem ash_Ring (o : Bool) (x : RingV) : ash (encRing o x) = encRing false x := by simp only [encRing, ash, ashs, ashs_Msg, ashs_Sub, ashs_Int]
theorem plA_Ring (o : Bool) (x : RingV) : plA (encRing o x) = true := by simp only [encRing, plA, plAs, Bool.and_self, plAs_Msg, plAs_Sub, plAs_Int]
theorem noSh_Ring (x : RingV) : noSh (encRing true x) = true := by simp only [encRing, noSh, noShs, Bool.and_self, noShs_Msg, noShs_Sub, noShs_Int]
attribute [go_sem] ash_Ring plA_Ring noSh_Ring
def wRing (x : RingV) : Nat := wMsgS x.items + wSubS x.subs + wIntS x.line + wIntS x.grants
def okRing (x : RingV) : Prop := okMsgS x.items ∧ okSubS x.subs ∧ okIntS x.line ∧ okIntS x.grants
def meRing (x : RingV) (k : Int) : RingV := { cap := k, sent := k + 1, items := mkMsgS x.items (k + 1 + 1), next := k + 1 + 1 + (mwMsgS x.items : Nat), subs := mkSubS x.subs (k + 1 + 1 + (mwMsgS x.items : Nat) + 1), line := mkIntS x.line (k + 1 + 1 + (mwMsgS x.items : Nat) + 1 + (mwSubS x.subs : Nat)), grants := mkIntS x.grants (k + 1 + 1 + (mwMsgS x.items : Nat) + 1 + (mwSubS x.subs : Nat) + (mwIntS x.line : Nat)), closed := mBool (k + 1 + 1 + (mwMsgS x.items : Nat) + 1 + (mwSubS x.subs : Nat) + (mwIntS x.line : Nat) + (mwIntS x.grants : Nat)) }
def mwRing (x : RingV) : Nat := 4 + mwMsgS x.items + mwSubS x.subs + mwIntS x.line + mwIntS x.grants
theorem mw10Ring (x : RingV) : mwRing x ≤ 10 * (1 + wRing x) := by
  have := mw10MsgS x.items
  have := mw10SubS x.subs
  have := mw10IntS x.line
  have := mw10IntS x.grants
  simp only [mwRing, wRing]; omega
def mtRing (x : RingV) (k : Int) : RingV := { x with items := mkMsgS x.items (k), subs := mkSubS x.subs (k + (mwMsgS x.items : Nat)), line := mkIntS x.line (k + (mwMsgS x.items : Nat) + (mwSubS x.subs : Nat)), grants := mkIntS x.grants (k + (mwMsgS x.items : Nat) + (mwSubS x.subs : Nat) + (mwIntS x.line : Nat)) }
def mtRingW (x : RingV) : Nat := mwMsgS x.items + mwSubS x.subs + mwIntS x.line + mwIntS x.grants
theorem mt10Ring (x : RingV) : mtRingW x ≤ 10 * wRing x := by
  have := mw10MsgS x.items
  have := mw10SubS x.subs
  have := mw10IntS x.line
  have := mw10IntS x.grants
  simp only [mtRingW, wRing]; omega
def wRingS (f : List RingV) : Nat := f.length + sumL wRing f
def okRingS (f : List RingV) : Prop := f.length < 4611686018427387904 ∧ ∀ x ∈ f, okRing x
def mkRingS (f : List RingV) (k : Int) : List RingV := mkL meRing mwRing f k
def mwRingS (f : List RingV) : Nat := sumL mwRing f
theorem mw10RingS (f : List RingV) : mwRingS f ≤ 10 * wRingS f := sum10 mw10Ring f
theorem ashs_Ring (o : Bool) (f : List RingV) : ashs (f.map (encRing o)) = f.map (encRing false) := ashs_map (g := (encRing o)) (h := (encRing false)) (fun x => ash_Ring o x) f
theorem plAs_Ring (o : Bool) (f : List RingV) : plAs (f.map (encRing o)) = true := plAs_map (g := (encRing o)) (fun x => plA_Ring o x) f
theorem alen_Ring (o : Bool) (f : List RingV) : ((f.map (encRing o)).all fun u => alen u == 8) = true := alen_map (g := (encRing o)) (fun x => rfl) f
theorem noShs_Ring (f : List RingV) : noShs (f.map (encRing true)) = true := noShs_map (g := (encRing true)) (fun x => noSh_Ring x) f
attribute [go_sem] ashs_Ring plAs_Ring alen_Ring noShs_Ring
def zeroRing : AV := .agg [.int .i64 0, .int .i64 0, .lst true 3 [], .int .i64 0, .lst true 7 [], .lst true 1 [], .lst true 1 [], .bool false]
theorem c_laws_szRing (x : RingV) (left : Int) {u : AV} (hu : u = encRing false x) (hb : okRing x) (h0 : decide (left < 0) = false) (h1 : left ≤ 1048576) : Sound P 4 [u, .int .i64 left] (.int .i64 (szW (wRing x) left)) := by
  subst hu
  have hp : 0 ≤ left := by simpa using h0
  obtain ⟨hb0, hb1, hb2, hb3⟩ := hb
  have hl0 : szW (wMsgS x.items) left ≤ 1048576 := szW_le (by omega)
  have hl1 : szW (wSubS x.subs) (szW (wMsgS x.items) left) ≤ 1048576 := szW_le (by omega)
  have hl2 : szW (wIntS x.line) (szW (wSubS x.subs) (szW (wMsgS x.items) left)) ≤ 1048576 := szW_le (by omega)
  have hl3 : szW (wIntS x.grants) (szW (wIntS x.line) (szW (wSubS x.subs) (szW (wMsgS x.items) left))) ≤ 1048576 := szW_le (by omega)
  refine snd_b hT Tryz.func4 Tryz.results4 Tryz.ntmps4 ?_
  (all_goals (have E0 := @encRing.eq_1))
  repeat' (first | refine one ?_ | (refine two ?_ ?_; all_goals (intro h; try simp only [Bool.not_eq_true', Bool.not_eq_false', reduceCtorEq] at h)) | fail)
  all_goals (try clear E0)
  all_goals (
    (simp only [go_sem, *])
    first
    | done
    | (have hT : wRing x = wMsgS x.items + wSubS x.subs + wIntS x.line + wIntS x.grants := rfl
       simp only [decide_eq_true_eq, decide_eq_false_iff_not, Option.some.injEq, AV.int.injEq, true_and] at *
       rcases szW_cases (wMsgS x.items) left with ⟨_, _⟩ | ⟨_, _⟩ <;> rcases szW_cases (wSubS x.subs) (szW (wMsgS x.items) left) with ⟨_, _⟩ | ⟨_, _⟩ <;> rcases szW_cases (wIntS x.line) (szW (wSubS x.subs) (szW (wMsgS x.items) left)) with ⟨_, _⟩ | ⟨_, _⟩ <;> rcases szW_cases (wIntS x.grants) (szW (wIntS x.line) (szW (wSubS x.subs) (szW (wMsgS x.items) left))) with ⟨_, _⟩ | ⟨_, _⟩ <;> rcases szW_cases (wRing x) left with ⟨_, _⟩ | ⟨_, _⟩ <;> omega))
noncomputable abbrev ic_laws_szRing := Con.mk (P := P) (f := 4) Tryz.call4 @c_laws_szRing
attribute [instance] ic_laws_szRing
theorem c_laws_toRing (x : RingV) {u : AV} (hu : u = encRing false x) (hw : wRing x ≤ 4194304) : Sound P 6 [u] (encRing true x) := by
  subst hu
  have hw2 : wMsgS x.items ≤ 4194304 := by simp only [wRing] at hw; omega
  have hw4 : wSubS x.subs ≤ 4194304 := by simp only [wRing] at hw; omega
  have hw5 : wIntS x.line ≤ 4194304 := by simp only [wRing] at hw; omega
  have hw6 : wIntS x.grants ≤ 4194304 := by simp only [wRing] at hw; omega
  clear hw
  refine snd_b hT Tryz.func6 Tryz.results6 Tryz.ntmps6 ?_
  (all_goals (have E0 := @encRing.eq_1))
  repeat' (first | refine one ?_ | (refine two ?_ ?_; all_goals (intro h; try simp only [Bool.not_eq_true', Bool.not_eq_false', reduceCtorEq] at h)) | fail)
  all_goals (try clear E0)
  all_goals ((simp only [go_sem, *]); first | done | rfl)
noncomputable abbrev ic_laws_toRing := Con.mk (P := P) (f := 6) Tryz.call6 @c_laws_toRing
attribute [instance] ic_laws_toRing
theorem c_laws_eqRing (x : RingV) {u v : AV} (hu : u = encRing false x) (hv : v = encRing false x) (hw : wRing x ≤ 4194304) : Sound P 8 [u, v] (.bool true) := by
  subst hu hv
  have hw2 : wMsgS x.items ≤ 4194304 := by simp only [wRing] at hw; omega
  have hw4 : wSubS x.subs ≤ 4194304 := by simp only [wRing] at hw; omega
  have hw5 : wIntS x.line ≤ 4194304 := by simp only [wRing] at hw; omega
  have hw6 : wIntS x.grants ≤ 4194304 := by simp only [wRing] at hw; omega
  clear hw
  refine snd_b hT Tryz.func8 Tryz.results8 Tryz.ntmps8 ?_
  (all_goals (have E0 := @encRing.eq_1))
  repeat' (first | refine one ?_ | (refine two ?_ ?_; all_goals (intro h; try simp only [Bool.not_eq_true', Bool.not_eq_false', reduceCtorEq] at h)) | fail)
  all_goals (try clear E0)
  all_goals (simp only [go_sem, *])
noncomputable abbrev ic_laws_eqRing := Con.mk (P := P) (f := 8) Tryz.call8 @c_laws_eqRing
attribute [instance] ic_laws_eqRing
-- LENT m_laws_markRing 0
theorem m_laws_markRing (x : RingV) (k : Int) {u : AV} (hu : u = encRing true x) (hw : wRing x ≤ 4194304) (h0 : 0 ≤ k) (h1 : k + (mtRingW x : Nat) ≤ 1099511627776) :
    SoundM P 10 [u, .int .i64 k] 0 (.int .i64 (k + (mtRingW x : Nat))) (encRing true (mtRing x k)) := by
  subst hu
  have hmt : mtRingW x = mwMsgS x.items + mwSubS x.subs + mwIntS x.line + mwIntS x.grants := rfl
  have ht0 := mw10MsgS x.items
  have hy0 : wMsgS x.items ≤ 4194304 := by simp only [wRing] at hw; omega
  have ht1 := mw10SubS x.subs
  have hy1 : wSubS x.subs ≤ 4194304 := by simp only [wRing] at hw; omega
  have ht2 := mw10IntS x.line
  have hy2 : wIntS x.line ≤ 4194304 := by simp only [wRing] at hw; omega
  have ht3 := mw10IntS x.grants
  have hy3 : wIntS x.grants ≤ 4194304 := by simp only [wRing] at hw; omega
  have hn0 : 0 ≤ k := by omega
  have hc0 : k + (mwMsgS x.items : Nat) ≤ 1099511627776 := by omega
  have hn1 : 0 ≤ k + ((mwMsgS x.items : Nat) : Int) := by omega
  have hc1 : k + ((mwMsgS x.items : Nat) : Int) + (mwSubS x.subs : Nat) ≤ 1099511627776 := by omega
  have hn2 : 0 ≤ k + ((mwMsgS x.items : Nat) : Int) + ((mwSubS x.subs : Nat) : Int) := by omega
  have hc2 : k + ((mwMsgS x.items : Nat) : Int) + ((mwSubS x.subs : Nat) : Int) + (mwIntS x.line : Nat) ≤ 1099511627776 := by omega
  have hn3 : 0 ≤ k + ((mwMsgS x.items : Nat) : Int) + ((mwSubS x.subs : Nat) : Int) + ((mwIntS x.line : Nat) : Int) := by omega
  have hc3 : k + ((mwMsgS x.items : Nat) : Int) + ((mwSubS x.subs : Nat) : Int) + ((mwIntS x.line : Nat) : Int) + (mwIntS x.grants : Nat) ≤ 1099511627776 := by omega
  have hret : k + ((mwMsgS x.items : Nat) : Int) + ((mwSubS x.subs : Nat) : Int) + ((mwIntS x.line : Nat) : Int) + ((mwIntS x.grants : Nat) : Int) = k + ((mtRingW x : Nat) : Int) := by omega
  clear hw hmt
  exact wGlRing10_0
noncomputable abbrev im_laws_markRing := ConL.mk (P := P) (f := 10) (t := 0) Tryz.call10 @m_laws_markRing
attribute [instance] im_laws_markRing
theorem c_laws_heldRing (x : RingV) (k : Int) {u : AV} (hu : u = encRing false (mtRing x k)) (hw : wRing x ≤ 4194304) (h0 : 0 ≤ k) (h1 : k + (mtRingW x : Nat) ≤ 1099511627776) :
    Sound P 11 [u, .int .i64 k] (.int .i64 (k + (mtRingW x : Nat))) := by
  subst hu
  have hmt : mtRingW x = mwMsgS x.items + mwSubS x.subs + mwIntS x.line + mwIntS x.grants := rfl
  have ht0 := mw10MsgS x.items
  have hy0 : wMsgS x.items ≤ 4194304 := by simp only [wRing] at hw; omega
  have hn0 : 0 ≤ k := by omega
  have hc0 : k + (mwMsgS x.items : Nat) ≤ 1099511627776 := by omega
  have hg0 : decide (k + ((mwMsgS x.items : Nat) : Int) < 0) = false := by simp; omega
  have ht1 := mw10SubS x.subs
  have hy1 : wSubS x.subs ≤ 4194304 := by simp only [wRing] at hw; omega
  have hn1 : 0 ≤ k + ((mwMsgS x.items : Nat) : Int) := by omega
  have hc1 : k + ((mwMsgS x.items : Nat) : Int) + (mwSubS x.subs : Nat) ≤ 1099511627776 := by omega
  have hg1 : decide (k + ((mwMsgS x.items : Nat) : Int) + ((mwSubS x.subs : Nat) : Int) < 0) = false := by simp; omega
  have ht2 := mw10IntS x.line
  have hy2 : wIntS x.line ≤ 4194304 := by simp only [wRing] at hw; omega
  have hn2 : 0 ≤ k + ((mwMsgS x.items : Nat) : Int) + ((mwSubS x.subs : Nat) : Int) := by omega
  have hc2 : k + ((mwMsgS x.items : Nat) : Int) + ((mwSubS x.subs : Nat) : Int) + (mwIntS x.line : Nat) ≤ 1099511627776 := by omega
  have hg2 : decide (k + ((mwMsgS x.items : Nat) : Int) + ((mwSubS x.subs : Nat) : Int) + ((mwIntS x.line : Nat) : Int) < 0) = false := by simp; omega
  have ht3 := mw10IntS x.grants
  have hy3 : wIntS x.grants ≤ 4194304 := by simp only [wRing] at hw; omega
  have hn3 : 0 ≤ k + ((mwMsgS x.items : Nat) : Int) + ((mwSubS x.subs : Nat) : Int) + ((mwIntS x.line : Nat) : Int) := by omega
  have hc3 : k + ((mwMsgS x.items : Nat) : Int) + ((mwSubS x.subs : Nat) : Int) + ((mwIntS x.line : Nat) : Int) + (mwIntS x.grants : Nat) ≤ 1099511627776 := by omega
  have hg3 : decide (k + ((mwMsgS x.items : Nat) : Int) + ((mwSubS x.subs : Nat) : Int) + ((mwIntS x.line : Nat) : Int) + ((mwIntS x.grants : Nat) : Int) < 0) = false := by simp; omega
  have hret : k + ((mwMsgS x.items : Nat) : Int) + ((mwSubS x.subs : Nat) : Int) + ((mwIntS x.line : Nat) : Int) + ((mwIntS x.grants : Nat) : Int) = k + ((mtRingW x : Nat) : Int) := by omega
  have hgr : decide (k + ((mtRingW x : Nat) : Int) < 0) = false := by simp; omega
  clear hw hmt
  exact wGlRing11_0
noncomputable abbrev ic_laws_heldRing := Con.mk (P := P) (f := 11) Tryz.call11 @c_laws_heldRing
attribute [instance] ic_laws_heldRing
end Go.Proofs.YtlgdijjkegeccaaGreat
